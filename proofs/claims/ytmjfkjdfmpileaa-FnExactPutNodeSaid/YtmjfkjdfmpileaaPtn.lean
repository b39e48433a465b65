/- Contracts: PutNode. -/
import Derived.Test.YtmjfkjdfmpileaaDrp
import Derived.Test.YtmjfkjdfmpileaaAcp
import Derived.Test.YtmjfkjdfmpileaaPuP
import Derived.Test.YtmjfkjdfmpileaaReg
set_option linter.unusedVariables false
set_option linter.unusedSimpArgs false
attribute [local go_sem ↓] Go.wp_at_zero Go.wp_at_succ
namespace Go.Proofs.Ytmjfkjdfmpileaa.M
open Go.RowKit
/-- where the nodes of a web under way may lie: from B on, but not in block av -/
def PutP (B av b : Nat) : Prop := B + 1 ≤ b ∧ b ≠ av
/-- a web under way: its nodes' list stands in block B; none of its blocks is av -/
def PutSt (W : World) (B av : Nat) (L : List Node) (X : World) : Prop := ∃ A c, X.cell? ⟨B, 0, none⟩ = some (.slice A L.length c) ∧ X.frozen? ⟨B, 0, none⟩ = false ∧ LieP (PutP B av) X (NodesT 46 108 112 L) (.slice A L.length c) ∧ Below B W X ∧ B < X.heap.size
theorem PutSt.below {W X Y : World} {B av : Nat} {L : List Node} (h : PutSt W B av L X) (hb : Below X.heap.size X Y) : PutSt W B av L Y := by
  obtain ⟨A, c, h1, h2, h3, h4, h5⟩ := h
  exact ⟨A, c, cell_below hb h1, (hb.frozen h5).trans h2, h3.below hb, h4.trans (hb.mono (by omega)), Nat.lt_of_lt_of_le h5 hb.size⟩
/-- a block that is not there yet -/
theorem PutSt.fresh {W X : World} {B av : Nat} {L : List Node} (h : PutSt W B av L X) : PutSt W B X.heap.size L X := by
  obtain ⟨A, c, h1, h2, h3, h4, h5⟩ := h
  exact ⟨A, c, h1, h2, h3.mono (fun b hb hp => ⟨hp.1, by omega⟩), h4, h5⟩
theorem PutSt.av0 {W X : World} {B av : Nat} {L : List Node} (h : PutSt W B av L X) : PutSt W B 0 L X := by
  obtain ⟨A, c, h1, h2, h3, h4, h5⟩ := h
  exact ⟨A, c, h1, h2, h3.mono (fun b hb hp => ⟨hp.1, by have := hp.1; omega⟩), h4, h5⟩
theorem PutSt.next {W X Z w7 : World} {B av : Nat} {L : List Node} {x : Node} {A A' : Option Addr} {c c' : Nat} (hW : Below B W X) (hZ : Below X.heap.size X Z) (hF : FrP (fun b => PutP B av b ∧ b < X.heap.size) Z w7) (hBX : B < X.heap.size) (hav : av < X.heap.size) (hc : X.cell? ⟨B, 0, none⟩ = some (.slice A L.length c)) (hf : X.frozen? ⟨B, 0, none⟩ = false)
    (hL : LieP (fun b => (PutP B av b ∧ b < X.heap.size) ∨ X.heap.size ≤ b ∨ b = Z.heap.size) w7 (.l 46 3 (L.length + 1) (L.flatMap (Node.c 108 112) ++ Node.c 108 112 x)) (.slice A' (L.length + 1) c')) :
    PutSt W B av (L ++ [x]) (w7.setCell ⟨B, 0, none⟩ (.slice A' (L.length + 1) c')) := by
  have z1 := hZ.size
  have z2 := hF.size
  have e0 : (L ++ [x]).length = L.length + 1 := by simp
  have hnB : ¬(PutP B av B ∧ B < X.heap.size) := fun h => by have := h.1.1; omega
  have t0 : w7.cell? ⟨B, 0, none⟩ = some (.slice A L.length c) := ((hF.cell (by omega) hnB).trans (hZ.cell (p := ⟨B, 0, none⟩) hBX)).trans hc
  have t1 : w7.frozen? ⟨B, 0, none⟩ = false := ((hF.frozen (by omega) hnB).trans (hZ.frozen (p := ⟨B, 0, none⟩) hBX)).trans hf
  refine ⟨A', c', ?_, ?_, ?_, ?_, ?_⟩
  · rw [e0]; go_simp
  · go_simp
  · rw [e0, NodesT_snoc]
    refine LieP.set (hL.mono fun b _ hb => ?_) (fun h => by have := h.1; simp at this; omega) _
    rcases hb with h | h | h
    · exact h.1
    · exact ⟨by omega, by omega⟩
    · exact ⟨by omega, by omega⟩
  · have h1 : Below B W Z := hW.trans (hZ.mono (by omega))
    have h2 : Below B Z w7 := hF.below (by omega) (fun b hb => by have := hb.1.1; omega)
    exact Below.setCell (h1.trans h2) (Nat.le_refl _) _
  · simp; omega
set_option maxRecDepth 100000 in
set_option maxHeartbeats 8000000 in
theorem PutNode_calls {tN tS tC tS' tC' : Nat} (x : Web) (n : Node) (w : World) {vs us : List Value} (h : reps w (x.c tN tS tC) vs) (h' : reps w (n.c tS' tC') us) (hz : x.Sm) (hz' : n.Action.Sm) :
    Calls Try.prog 17 #[.agg vs.toArray, .agg us.toArray] w (WebPost (putWeb x n) w) := by
  obtain ⟨v0, rfl, h0⟩ := Web.ropen h
  obtain ⟨A, c, rfl, _, _⟩ := rep_len h0
  obtain ⟨vn, rfl, hn⟩ := Node.ropen h'
  obtain ⟨An, cn, rfl, _, _⟩ := rep_len hn
  replace h0 := Asd.mk h0
  replace hn := Asd.mk hn
  clear h h'
  have HB := Asd.mk (below_al (below_al (below_al (Below.refl w.heap.size w) (.cells #[.slice A x.Nodes.length c] 28)) (.cells #[.string n.Name, .int .i64 n.Action.Cost, .slice An n.Action.Steps.length cn] 46)) (.cells #[.slice none 0 0] 28))
  have hz1 := Asd.mk hz
  have hz2 := Asd.mk hz'
  by_cases q1 : checkWeb x = 0
  rotate_left
  · have e1 := Asd.mk (show putWeb x n = (⟨[]⟩, 1) by rw [putWeb, if_pos q1])
    obtain ⟨m, hm⟩ : ∃ m, checkWeb x = m := ⟨_, rfl⟩
    have q2 : decide (m = 0) = false := by simp [← hm, q1]
    go_enter Try.func17, Try.ntmps17
    go_wp2_with fail
    refine (CheckWeb_calls x _ (Web.rmk x (h0.out.below HB.out)) hz1.out).mono ?_
    rintro e w1 ⟨rfl, hb⟩
    obtain ⟨hcx, hfx⟩ := bcell hb
    have hzz : w.heap.size + 1 + 1 < w1.heap.size := by have := hb.size; simp at this; omega
    have hzy : w.heap.size < w1.heap.size := by omega
    have hzx : w.heap.size + 1 < w1.heap.size := by omega
    have HW := Asd.mk (below_st HB.out hb)
    clear hb
    rw [hm]
    replace q1 : m ≠ 0 := hm ▸ q1
    clear hm
    go_wp2
    refine bodyPost_ret (v := .tuple #[.agg #[.slice none 0 0], .int .i64 1]) (by simp [results, Try.results17, go_sem, *]) rfl ?_
    rw [e1.out]
    exact ⟨_, rfl, Lie.nil _ _ _ _, by repeat (first | (with_reducible exact Below.refl _ _) | (with_reducible exact HW.out) | (with_reducible refine below_al ?_ _) | (with_reducible refine below_dr ?_ _) | (with_reducible refine below_d1 ?_) | ((with_reducible refine Below.setCell ?_ ?_ _); rotate_left; (next => first | (simp; done) | (simp; omega) | omega)))⟩
  obtain ⟨hl, hA1, hA2, _⟩ := checkWeb_ok q1
  have hasc := Asd.mk (ascB_asc hA2)
  by_cases q2 : nameOk n.Name = true
  rotate_left
  · have e1 := Asd.mk (show putWeb x n = (⟨[]⟩, 2) by rw [putWeb, if_neg (by simp [q1]), if_pos (by simp [Bool.eq_false_iff.2 q2])])
    replace q2 := Bool.eq_false_iff.2 q2
    go_enter Try.func17, Try.ntmps17
    go_wp2_with fail
    refine (CheckWeb_calls x _ (Web.rmk x (h0.out.below HB.out)) hz1.out).mono ?_
    rintro e w1 ⟨rfl, hb⟩
    obtain ⟨hcx, hfx⟩ := bcell hb
    have hzz : w.heap.size + 1 + 1 < w1.heap.size := by have := hb.size; simp at this; omega
    have hzy : w.heap.size < w1.heap.size := by omega
    have hzx : w.heap.size + 1 < w1.heap.size := by omega
    have HW := Asd.mk (below_st HB.out hb)
    clear hb
    rw [q1]
    go_wp2_with (first | (go_at_call 38; refine (goodName_calls _ _).mono ?_; rintro e w' ⟨rfl, rfl⟩))
    refine bodyPost_ret (v := .tuple #[.agg #[.slice none 0 0], .int .i64 2]) (by simp [results, Try.results17, go_sem, *]) rfl ?_
    rw [e1.out]
    exact ⟨_, rfl, Lie.nil _ _ _ _, by repeat (first | (with_reducible exact Below.refl _ _) | (with_reducible exact HW.out) | (with_reducible refine below_al ?_ _) | (with_reducible refine below_dr ?_ _) | (with_reducible refine below_d1 ?_) | ((with_reducible refine Below.setCell ?_ ?_ _); rotate_left; (next => first | (simp; done) | (simp; omega) | omega)))⟩
  by_cases q3 : actionOk n.Action = true
  rotate_left
  · have e1 := Asd.mk (show putWeb x n = (⟨[]⟩, 2) by rw [putWeb, if_neg (by simp [q1]), if_pos (by simp [Bool.eq_false_iff.2 q3])])
    replace q3 := Bool.eq_false_iff.2 q3
    go_enter Try.func17, Try.ntmps17
    go_wp2_with fail
    refine (CheckWeb_calls x _ (Web.rmk x (h0.out.below HB.out)) hz1.out).mono ?_
    rintro e w1 ⟨rfl, hb⟩
    obtain ⟨hcx, hfx⟩ := bcell hb
    have hzz : w.heap.size + 1 + 1 < w1.heap.size := by have := hb.size; simp at this; omega
    have hzy : w.heap.size < w1.heap.size := by omega
    have hzx : w.heap.size + 1 < w1.heap.size := by omega
    have HW := Asd.mk (below_st HB.out hb)
    clear hb
    rw [q1]
    go_wp2_with (first | (go_at_call 38; refine (goodName_calls _ _).mono ?_; rintro e w' ⟨rfl, rfl⟩))
    refine (ValidAction_calls n.Action _ (Action.rmk _ (hn.out.below HW.out)) hz2.out).mono ?_
    rintro e w2 ⟨rfl, hb⟩
    have b0 : w2.cell? ⟨w.heap.size, 0, none⟩ = some (.slice A x.Nodes.length c) := by rw [hb.cell (by simp; omega), hcx _ _ (by first | (simp; done) | (simp; omega))]; go_simp
    have b1 : w2.cell? ⟨w.heap.size + 1, 0, none⟩ = some (.string n.Name) := by rw [hb.cell (by simp; omega), hcx _ _ (by first | (simp; done) | (simp; omega))]; go_simp
    have b2 : w2.cell? ⟨w.heap.size + 1, 1, none⟩ = some (.int .i64 n.Action.Cost) := by rw [hb.cell (by simp; omega), hcx _ _ (by first | (simp; done) | (simp; omega))]; go_simp
    have b3 : w2.cell? ⟨w.heap.size + 1, 2, none⟩ = some (.slice An n.Action.Steps.length cn) := by rw [hb.cell (by simp; omega), hcx _ _ (by first | (simp; done) | (simp; omega))]; go_simp
    have b4 : w2.cell? ⟨w.heap.size + 1 + 1, 0, none⟩ = some (.slice none 0 0) := by rw [hb.cell (by simp; omega), hcx _ _ (by first | (simp; done) | (simp; omega))]; go_simp
    have f4 : w2.frozen? ⟨w.heap.size + 1 + 1, 0, none⟩ = false := by rw [hb.frozen (by simp; omega), hfx _ _ (by first | (simp; done) | (simp; omega))]; go_simp
    have y0 : w.heap.size < w2.heap.size := by have := hb.size; omega
    have y1 : w.heap.size + 1 < w2.heap.size := by have := hb.size; omega
    have y2 : w.heap.size + 1 + 1 < w2.heap.size := by have := hb.size; omega
    replace HW := Asd.mk (below_st HW.out hb)
    clear hb hcx hfx hzz hzy hzx
    rw [q3]
    go_wp2
    refine bodyPost_ret (v := .tuple #[.agg #[.slice none 0 0], .int .i64 2]) (by simp [results, Try.results17, go_sem, *]) rfl ?_
    rw [e1.out]
    exact ⟨_, rfl, Lie.nil _ _ _ _, by repeat (first | (with_reducible exact Below.refl _ _) | (with_reducible exact HW.out) | (with_reducible refine below_al ?_ _) | (with_reducible refine below_dr ?_ _) | (with_reducible refine below_d1 ?_) | ((with_reducible refine Below.setCell ?_ ?_ _); rotate_left; (next => first | (simp; done) | (simp; omega) | omega)))⟩
  have hbn := Asd.mk (actionOk_bd q3)
  obtain ⟨t, ht⟩ : ∃ t, hasN x.Nodes n.Name = t := ⟨_, rfl⟩
  by_cases q4 : t = false ∧ x.Nodes.length = 60
  · obtain ⟨rfl, q5⟩ := q4
    have e1 := Asd.mk (show putWeb x n = (⟨[]⟩, 3) by rw [putWeb, if_neg (by simp [q1]), if_neg (by simp [q2, q3]), if_pos ⟨ht, q5⟩])
    have q6 : ((x.Nodes.length : Int) == 60) = true := by rw [q5]; rfl
    clear q5
    go_enter Try.func17, Try.ntmps17
    go_wp2_with fail
    refine (CheckWeb_calls x _ (Web.rmk x (h0.out.below HB.out)) hz1.out).mono ?_
    rintro e w1 ⟨rfl, hb⟩
    obtain ⟨hcx, hfx⟩ := bcell hb
    have hzz : w.heap.size + 1 + 1 < w1.heap.size := by have := hb.size; simp at this; omega
    have hzy : w.heap.size < w1.heap.size := by omega
    have hzx : w.heap.size + 1 < w1.heap.size := by omega
    have HW := Asd.mk (below_st HB.out hb)
    clear hb
    rw [q1]
    go_wp2_with (first | (go_at_call 38; refine (goodName_calls _ _).mono ?_; rintro e w' ⟨rfl, rfl⟩))
    refine (ValidAction_calls n.Action _ (Action.rmk _ (hn.out.below HW.out)) hz2.out).mono ?_
    rintro e w2 ⟨rfl, hb⟩
    have b0 : w2.cell? ⟨w.heap.size, 0, none⟩ = some (.slice A x.Nodes.length c) := by rw [hb.cell (by simp; omega), hcx _ _ (by first | (simp; done) | (simp; omega))]; go_simp
    have b1 : w2.cell? ⟨w.heap.size + 1, 0, none⟩ = some (.string n.Name) := by rw [hb.cell (by simp; omega), hcx _ _ (by first | (simp; done) | (simp; omega))]; go_simp
    have b2 : w2.cell? ⟨w.heap.size + 1, 1, none⟩ = some (.int .i64 n.Action.Cost) := by rw [hb.cell (by simp; omega), hcx _ _ (by first | (simp; done) | (simp; omega))]; go_simp
    have b3 : w2.cell? ⟨w.heap.size + 1, 2, none⟩ = some (.slice An n.Action.Steps.length cn) := by rw [hb.cell (by simp; omega), hcx _ _ (by first | (simp; done) | (simp; omega))]; go_simp
    have b4 : w2.cell? ⟨w.heap.size + 1 + 1, 0, none⟩ = some (.slice none 0 0) := by rw [hb.cell (by simp; omega), hcx _ _ (by first | (simp; done) | (simp; omega))]; go_simp
    have f4 : w2.frozen? ⟨w.heap.size + 1 + 1, 0, none⟩ = false := by rw [hb.frozen (by simp; omega), hfx _ _ (by first | (simp; done) | (simp; omega))]; go_simp
    have y0 : w.heap.size < w2.heap.size := by have := hb.size; omega
    have y1 : w.heap.size + 1 < w2.heap.size := by have := hb.size; omega
    have y2 : w.heap.size + 1 + 1 < w2.heap.size := by have := hb.size; omega
    replace HW := Asd.mk (below_st HW.out hb)
    clear hb hcx hfx hzz hzy hzx
    rw [q3]
    go_wp2_with fail
    refine (find_calls x n.Name _ (Web.rmk x (h0.out.below HW.out)) hasc.out (by omega)).mono ?_
    rintro e w3 ⟨a, ha, rfl, hb⟩
    replace b0 := cell_below hb b0
    replace b1 := cell_below hb b1
    replace b2 := cell_below hb b2
    replace b3 := cell_below hb b3
    replace b4 := cell_below hb b4
    replace f4 := (hb.frozen (p := ⟨w.heap.size + 1 + 1, 0, none⟩) y2).trans f4
    replace y0 : w.heap.size < w3.heap.size := by have := hb.size; omega
    replace y1 : w.heap.size + 1 < w3.heap.size := by have := hb.size; omega
    replace y2 : w.heap.size + 1 + 1 < w3.heap.size := by have := hb.size; omega
    replace HW := Asd.mk (below_st HW.out hb)
    clear hb
    rw [ht]
    clear ha
    go_wp2
    refine bodyPost_ret (v := .tuple #[.agg #[.slice none 0 0], .int .i64 3]) (by simp [results, Try.results17, go_sem, *]) rfl ?_
    rw [e1.out]
    exact ⟨_, rfl, Lie.nil _ _ _ _, by repeat (first | (with_reducible exact Below.refl _ _) | (with_reducible exact HW.out) | (with_reducible refine below_al ?_ _) | (with_reducible refine below_dr ?_ _) | (with_reducible refine below_d1 ?_) | ((with_reducible refine Below.setCell ?_ ?_ _); rotate_left; (next => first | (simp; done) | (simp; omega) | omega)))⟩
  have e1 := Asd.mk (show putWeb x n = (⟨putAll x.Nodes (lbN x.Nodes n.Name) (tB t) n⟩, 0) by rw [putWeb, if_neg (by simp [q1]), if_neg (by simp [q2, q3]), if_neg (by rw [ht]; exact q4), ht])
  have hbd := Asd.mk (fun i hi => web_bd (i := i) q1 hi)
  have q6 : t = false → ((x.Nodes.length : Int) == 60) = false := fun h => by
    rw [beq_eq_false_iff_ne]
    intro h2
    exact q4 ⟨h, by omega⟩
  clear q4
  cases t with
  | true =>
    go_enter Try.func17, Try.ntmps17
    go_wp2_with fail
    refine (CheckWeb_calls x _ (Web.rmk x (h0.out.below HB.out)) hz1.out).mono ?_
    rintro e w1 ⟨rfl, hb⟩
    obtain ⟨hcx, hfx⟩ := bcell hb
    have hzz : w.heap.size + 1 + 1 < w1.heap.size := by have := hb.size; simp at this; omega
    have hzy : w.heap.size < w1.heap.size := by omega
    have hzx : w.heap.size + 1 < w1.heap.size := by omega
    have HW := Asd.mk (below_st HB.out hb)
    clear hb
    rw [q1]
    go_wp2_with (first | (go_at_call 38; refine (goodName_calls _ _).mono ?_; rintro e w' ⟨rfl, rfl⟩))
    refine (ValidAction_calls n.Action _ (Action.rmk _ (hn.out.below HW.out)) hz2.out).mono ?_
    rintro e w2 ⟨rfl, hb⟩
    have b0 : w2.cell? ⟨w.heap.size, 0, none⟩ = some (.slice A x.Nodes.length c) := by rw [hb.cell (by simp; omega), hcx _ _ (by first | (simp; done) | (simp; omega))]; go_simp
    have b1 : w2.cell? ⟨w.heap.size + 1, 0, none⟩ = some (.string n.Name) := by rw [hb.cell (by simp; omega), hcx _ _ (by first | (simp; done) | (simp; omega))]; go_simp
    have b2 : w2.cell? ⟨w.heap.size + 1, 1, none⟩ = some (.int .i64 n.Action.Cost) := by rw [hb.cell (by simp; omega), hcx _ _ (by first | (simp; done) | (simp; omega))]; go_simp
    have b3 : w2.cell? ⟨w.heap.size + 1, 2, none⟩ = some (.slice An n.Action.Steps.length cn) := by rw [hb.cell (by simp; omega), hcx _ _ (by first | (simp; done) | (simp; omega))]; go_simp
    have b4 : w2.cell? ⟨w.heap.size + 1 + 1, 0, none⟩ = some (.slice none 0 0) := by rw [hb.cell (by simp; omega), hcx _ _ (by first | (simp; done) | (simp; omega))]; go_simp
    have f4 : w2.frozen? ⟨w.heap.size + 1 + 1, 0, none⟩ = false := by rw [hb.frozen (by simp; omega), hfx _ _ (by first | (simp; done) | (simp; omega))]; go_simp
    have y0 : w.heap.size < w2.heap.size := by have := hb.size; omega
    have y1 : w.heap.size + 1 < w2.heap.size := by have := hb.size; omega
    have y2 : w.heap.size + 1 + 1 < w2.heap.size := by have := hb.size; omega
    replace HW := Asd.mk (below_st HW.out hb)
    clear hb hcx hfx hzz hzy hzx
    rw [q3]
    go_wp2_with fail
    refine (find_calls x n.Name _ (Web.rmk x (h0.out.below HW.out)) hasc.out (by omega)).mono ?_
    rintro e w3 ⟨a, ha, rfl, hb⟩
    replace b0 := cell_below hb b0
    replace b1 := cell_below hb b1
    replace b2 := cell_below hb b2
    replace b3 := cell_below hb b3
    replace b4 := cell_below hb b4
    replace f4 := (hb.frozen (p := ⟨w.heap.size + 1 + 1, 0, none⟩) y2).trans f4
    replace y0 : w.heap.size < w3.heap.size := by have := hb.size; omega
    replace y1 : w.heap.size + 1 < w3.heap.size := by have := hb.size; omega
    replace y2 : w.heap.size + 1 + 1 < w3.heap.size := by have := hb.size; omega
    replace HW := Asd.mk (below_st HW.out hb)
    clear hb
    rw [ht]
    have hlb := Asd.mk ha.lb
    have hat : a < x.Nodes.length := by obtain ⟨h, _⟩ := (ha.there hasc.out).1 ht; exact h
    clear q6
    clear ha ht
    go_wp2
    go_loopw [45] (fun i wr => ∃ k : Nat, k ≤ x.Nodes.length ∧ i = .int .i64 k ∧ PutSt w3 w3.heap.size wr.heap.size (putTo x.Nodes a 1 n k) wr) (fun i _ => x.Nodes.length - (intOf i).toNat)
    case atStart => exact ⟨0, by omega, rfl, .none, 0, by rw [putTo_zero]; go_simp, by go_simp, by rw [putTo_zero]; exact LieP.nil _ _ _ _, below_al (Below.refl _ _) _, by simp⟩
    case round =>
      obtain ⟨k, hk, rfl, st⟩ := hrel
      have hbw := Asd.mk (st.choose_spec.choose_spec.2.2.2.1)
      have hszw := st.choose_spec.choose_spec.2.2.2.2
      have hlen := putTo_len (a := a) (t := 1) (n := n) hk
      by_cases hlt : k < x.Nodes.length
      · skip
        obtain ⟨ad, c', u2, he, k0, k1, k2, h23, hr⟩ := Node.elem (h0.out.below HW.out) hlt
        cases he
        obtain ⟨B2, d2, rfl, _, _⟩ := rep_len h23
        replace h23 := Asd.mk h23
        replace k0 := cell_below hbw.out k0
        replace k1 := cell_below hbw.out k1
        replace k2 := cell_below hbw.out k2
        clear hr
        have p1 := cell_below hbw.out b1
        have p2 := cell_below hbw.out b2
        have p3 := cell_below hbw.out b3
        have hbnd := hbd.out k hlt
        have s0 : w.heap.size + 1 < wr.heap.size := by omega
        have hbX := Asd.mk (below_al (Below.refl wr.heap.size wr) (.cells #[.string x.Nodes[k].Name, .int .i64 x.Nodes[k].Action.Cost, .slice B2 x.Nodes[k].Action.Steps.length d2] 46))
        rcases Nat.lt_trichotomy k a with hka | hka | hka
        · have e2 := Asd.mk (putTo_lt (t := 1) (n := n) hlt hka)
          have hne : ¬k = a := by omega
          go_wp2
          obtain ⟨X, hX⟩ : ∃ X : World, X = wr.alloc (.cells #[.string x.Nodes[k].Name, .int .i64 x.Nodes[k].Action.Cost, .slice B2 x.Nodes[k].Action.Steps.length d2] 46) := ⟨_, rfl⟩
          rw [← hX]
          rw [← hX] at hbX
          have zX : X.heap.size = wr.heap.size + 1 := by rw [hX]; simp
          have hav : wr.heap.size < X.heap.size := by omega
          replace st := st.below hbX.out
          have x0 : X.cell? ⟨wr.heap.size, 0, none⟩ = some (.string x.Nodes[k].Name) := by rw [hX]; go_simp
          have x1 : X.cell? ⟨wr.heap.size, 1, none⟩ = some (.int .i64 x.Nodes[k].Action.Cost) := by rw [hX]; go_simp
          have x2 : X.cell? ⟨wr.heap.size, 2, none⟩ = some (.slice B2 x.Nodes[k].Action.Steps.length d2) := by rw [hX]; go_simp
          replace p1 := cell_below hbX.out p1
          replace p2 := cell_below hbX.out p2
          replace p3 := cell_below hbX.out p3
          have h2 := Asd.mk (h23.out.below (below_st hbw.out hbX.out))
          have hnX := Asd.mk (hn.out.below (below_st (below_st HW.out hbw.out) hbX.out))
          replace zX : X.heap.size ≤ wr.heap.size + 1 := by omega
          clear hX k0 k1 k2
          have m0 := x0
          have m1 := x1
          have m2 := x2
          have hNB : ¬(PutP w3.heap.size wr.heap.size wr.heap.size ∧ wr.heap.size < X.heap.size) := fun h => h.1.2 rfl
          obtain ⟨R, d, b0, f0, hL, hbr, hsz⟩ := st
          replace hL := Asd.mk hL
          replace hbr := Asd.mk hbr
          refine wp_region_G (last := 7) (S := fun Z => Z.cell? ⟨w3.heap.size, 0, none⟩ = some (.slice R (putTo x.Nodes a 1 n k).length d) ∧ Z.cell? ⟨wr.heap.size, 0, none⟩ = some (.string x.Nodes[k].Name) ∧ Z.cell? ⟨wr.heap.size, 1, none⟩ = some (.int .i64 x.Nodes[k].Action.Cost) ∧ Z.cell? ⟨wr.heap.size, 2, none⟩ = some (.slice B2 x.Nodes[k].Action.Steps.length d2)) (by kernel_rfl) ?_
          have hH : (X).drew.cell? ⟨w3.heap.size, 0, none⟩ = some (.slice R (putTo x.Nodes a 1 n k).length d) ∧ (X).drew.cell? ⟨wr.heap.size, 0, none⟩ = some (.string x.Nodes[k].Name) ∧ (X).drew.cell? ⟨wr.heap.size, 1, none⟩ = some (.int .i64 x.Nodes[k].Action.Cost) ∧ (X).drew.cell? ⟨wr.heap.size, 2, none⟩ = some (.slice B2 x.Nodes[k].Action.Steps.length d2) := ⟨b0, m0, m1, m2⟩
          ((refine wpG_take (i := 0) (v := ?_) rfl rfl (by kernel_rfl) (by kernel_rfl) (by kernel_rfl) (by kernel_rfl) (fun _ _ _ h => h) (Or.inl ⟨by rfl, ?_⟩) (by assumption) ?_; rotate_left; (next => ((intro X hX; (try dsimp only at hX); go_simp); try with_reducible rfl))); (try simp only [Act.put, List.setIfInBounds_toArray, List.set_cons_zero, List.set_cons_succ]); (refine wpG_take (i := 1) (v := ?_) rfl rfl (by kernel_rfl) (by kernel_rfl) (by kernel_rfl) (by kernel_rfl) (fun _ _ _ h => h) (Or.inl ⟨by rfl, ?_⟩) (by assumption) ?_; rotate_left; (next => ((intro X hX; (try dsimp only at hX); go_simp); try with_reducible rfl))); (try simp only [Act.put, List.setIfInBounds_toArray, List.set_cons_zero, List.set_cons_succ]); (refine wpG_take (i := 2) (v := ?_) rfl rfl (by kernel_rfl) (by kernel_rfl) (by kernel_rfl) (by kernel_rfl) (fun _ _ _ h => h) (Or.inl ⟨by rfl, ?_⟩) (by assumption) ?_; rotate_left; (next => ((intro X hX; (try dsimp only at hX); go_simp); try with_reducible rfl))); (try simp only [Act.put, List.setIfInBounds_toArray, List.set_cons_zero, List.set_cons_succ]))
          (refine wpG_one (i := 3) (by kernel_rfl) rfl (fun K hK => ?_))
          go_simp
          go_at_call 40
          refine (copyNode_calls x.Nodes[k] _ (Node.rmk _ (h2.out.below (by repeat (first | (with_reducible exact Below.refl _ _) | (with_reducible exact Below.refl _ _) | (with_reducible refine below_al ?_ _) | (with_reducible refine below_dr ?_ _) | (with_reducible refine below_d1 ?_) | ((with_reducible refine Below.setCell ?_ ?_ _); rotate_left; (next => first | (simp; done) | (simp; omega) | omega)))))) (by omega) hbnd.2).mono ?_
          rintro e w5 ⟨us, rfl, hM, hb5_⟩
          have hM2 := Asd.mk (hM.lies.mono (l := (X).heap.size) (by simp))
          obtain ⟨F_, o_, n_, l_⟩ := hM
          obtain ⟨v2_, G2_, rfl, p2_, rfl⟩ := Node.oopen o_
          obtain ⟨D2, d3, rfl, _, _⟩ := own_slice p2_
          clear p2_ n_ l_ o_
          have hb6 := Asd.mk (show Below (X).heap.size (X) w5 from below_st (by repeat (first | (with_reducible exact Below.refl _ _) | (with_reducible exact Below.refl _ _) | (with_reducible refine below_al ?_ _) | (with_reducible refine below_dr ?_ _) | (with_reducible refine below_d1 ?_) | ((with_reducible refine Below.setCell ?_ ?_ _); rotate_left; (next => first | (simp; done) | (simp; omega) | omega)))) hb5_)
          have g0 := cell_below hb6.out b0
          have g1 := cell_below hb6.out m0
          have g2 := cell_below hb6.out m1
          have g3 := cell_below hb6.out m2
          have hsz5 : (X).heap.size ≤ w5.heap.size := hb6.out.size
          have hB5 : w3.heap.size < w5.heap.size := by omega
          have hN5 : wr.heap.size < w5.heap.size := by omega
          clear hb5_ hH
          refine hK.out _ _ (fun _ => ⟨g0, g1, g2, g3⟩) ?_
          clear hK K
          (try simp only [Act.put, List.setIfInBounds_toArray, List.set_cons_zero, List.set_cons_succ])
          have hH : w5.cell? ⟨w3.heap.size, 0, none⟩ = some (.slice R (putTo x.Nodes a 1 n k).length d) ∧ w5.cell? ⟨wr.heap.size, 0, none⟩ = some (.string x.Nodes[k].Name) ∧ w5.cell? ⟨wr.heap.size, 1, none⟩ = some (.int .i64 x.Nodes[k].Action.Cost) ∧ w5.cell? ⟨wr.heap.size, 2, none⟩ = some (.slice B2 x.Nodes[k].Action.Steps.length d2) := ⟨g0, g1, g2, g3⟩
          (refine wpG_one (i := 4) (by kernel_rfl) rfl (fun K hK => ?_))
          go_simp
          refine hK.out _ _ (fun _ => ⟨by go_simp, by go_simp, by go_simp, by go_simp⟩) ?_
          clear hK K hH
          (try simp only [Act.put, List.setIfInBounds_toArray, List.set_cons_zero, List.set_cons_succ])
          (refine wpG_one (i := 5) (by kernel_rfl) rfl (fun K hK => ?_))
          refine step_appP (by rfl) (by rfl) Try.underlying26 info_Node rfl (by decide) (by rfl) (wr := X) (m0 := (X).heap.size) hL.out (by repeat (first | (with_reducible exact Below.refl _ _) | (with_reducible exact hb6.out) | (with_reducible refine below_al ?_ _) | (with_reducible refine below_dr ?_ _) | (with_reducible refine below_d1 ?_) | ((with_reducible refine Below.setCell ?_ ?_ _); rotate_left; (next => first | (simp; done) | (simp; omega) | omega)))) (Nat.le_refl _) (by rfl) (World.news_of_block (heap_alloc_new _ _)) (by simp) (Lies.below hM2.out (by repeat (first | (with_reducible exact Below.refl _ _) | (with_reducible exact Below.refl _ _) | (with_reducible refine below_al ?_ _) | (with_reducible refine below_dr ?_ _) | (with_reducible refine below_d1 ?_) | ((with_reducible refine Below.setCell ?_ ?_ _); rotate_left; (next => first | (simp; done) | (simp; omega) | omega))))) (by simp [maxLen]; omega) (by omega) ?_
          intro v7 w7 hL7 hF7
          have hnB : ¬(PutP w3.heap.size (wr.heap.size) w3.heap.size ∧ w3.heap.size < (X).heap.size) := fun h => by have := h.1.1; omega
          have t0 := (hF7.cell (b := w3.heap.size) (o := 0) (by first | (simp; done) | (simp; omega)) hnB).trans (by go_simp : _ = some (.slice R (putTo x.Nodes a 1 n k).length d))
          have t4 := (hF7.frozen (b := w3.heap.size) (o := 0) (by first | (simp; done) | (simp; omega)) hnB).trans (((show Below (X).heap.size (X) _ from by repeat (first | (with_reducible exact Below.refl _ _) | (with_reducible exact hb6.out) | (with_reducible refine below_al ?_ _) | (with_reducible refine below_dr ?_ _) | (with_reducible refine below_d1 ?_) | ((with_reducible refine Below.setCell ?_ ?_ _); rotate_left; (next => first | (simp; done) | (simp; omega) | omega)))).frozen (p := ⟨w3.heap.size, 0, none⟩) hsz).trans f0)
          have z7 : w3.heap.size < w7.heap.size := by have := hF7.size; simp at this; omega
          obtain ⟨R7, d7, rfl, _, _⟩ := hL7.slice
          have st := Asd.mk (PutSt.next hbr.out (by repeat (first | (with_reducible exact Below.refl _ _) | (with_reducible exact hb6.out) | (with_reducible refine below_al ?_ _) | (with_reducible refine below_dr ?_ _) | (with_reducible refine below_d1 ?_) | ((with_reducible refine Below.setCell ?_ ?_ _); rotate_left; (next => first | (simp; done) | (simp; omega) | omega)))) hF7 hsz hav b0 f0 hL7)
          have t1 := (hF7.cell (b := wr.heap.size) (o := 0) (by first | (simp; done) | (simp; omega)) hNB).trans (by go_simp : _ = some (.string x.Nodes[k].Name))
          have t2 := (hF7.cell (b := wr.heap.size) (o := 1) (by first | (simp; done) | (simp; omega)) hNB).trans (by go_simp : _ = some (.int .i64 x.Nodes[k].Action.Cost))
          have t3 := (hF7.cell (b := wr.heap.size) (o := 2) (by first | (simp; done) | (simp; omega)) hNB).trans (by go_simp : _ = some (.slice B2 x.Nodes[k].Action.Steps.length d2))
          have far := Asd.mk (fun (b o : Nat) (h1 : b < (X).heap.size) (h2 : b ≠ w3.heap.size) (h3 : ¬(PutP w3.heap.size (wr.heap.size) b ∧ b < (X).heap.size)) => show (w7.setCell ⟨w3.heap.size, 0, none⟩ (.slice R7 (putTo x.Nodes a 1 n k).length.succ d7)).cell? ⟨b, o, none⟩ = (X).cell? ⟨b, o, none⟩ from by
            rw [World.cell?_setCell_far _ _ _ _ (by simp; omega), hF7.cell (by simp; omega) h3]; exact (show Below (X).heap.size (X) _ from by repeat (first | (with_reducible exact Below.refl _ _) | (with_reducible exact hb6.out) | (with_reducible refine below_al ?_ _) | (with_reducible refine below_dr ?_ _) | (with_reducible refine below_d1 ?_) | ((with_reducible refine Below.setCell ?_ ?_ _); rotate_left; (next => first | (simp; done) | (simp; omega) | omega)))).cell (p := ⟨b, o, none⟩) h1)
          have z8 : (X).heap.size ≤ w7.heap.size := by have := hF7.size; simp at this; omega
          clear hL7 hF7
          refine hK.out _ _ (fun _ => ⟨t0, t1, t2, t3⟩) ?_
          clear hK K
          (try simp only [Act.put, List.setIfInBounds_toArray, List.set_cons_zero, List.set_cons_succ])
          have hH : w7.cell? ⟨w3.heap.size, 0, none⟩ = some (.slice R (putTo x.Nodes a 1 n k).length d) ∧ w7.cell? ⟨wr.heap.size, 0, none⟩ = some (.string x.Nodes[k].Name) ∧ w7.cell? ⟨wr.heap.size, 1, none⟩ = some (.int .i64 x.Nodes[k].Action.Cost) ∧ w7.cell? ⟨wr.heap.size, 2, none⟩ = some (.slice B2 x.Nodes[k].Action.Steps.length d2) := ⟨t0, t1, t2, t3⟩
          ((refine wpG_take (i := 6) (v := ?_) rfl rfl (by kernel_rfl) (by kernel_rfl) (by kernel_rfl) (by kernel_rfl) (fun _ _ _ h => h) (Or.inl ⟨by rfl, ?_⟩) (by assumption) ?_; rotate_left; (next => ((intro X hX; (try dsimp only at hX); go_simp); try with_reducible rfl))); (try simp only [Act.put, List.setIfInBounds_toArray, List.set_cons_zero, List.set_cons_succ]))
          (refine wpG_one (i := 7) (by kernel_rfl) rfl (fun K hK => ?_))
          go_simp
          refine hK.out _ _ (fun h => absurd rfl h) ?_
          clear hK K hH
          refine wpG_done (by kernel_rfl) ?_ _
          go_wp2
          go_roundw
          case rel => exact ⟨k + 1, by omega, by go_num, by rw [e2.out]; exact st.out.fresh⟩
          case measure => simp [intOf]; omega
        · subst hka
          go_wp2
          obtain ⟨X, hX⟩ : ∃ X : World, X = wr.alloc (.cells #[.string x.Nodes[k].Name, .int .i64 x.Nodes[k].Action.Cost, .slice B2 x.Nodes[k].Action.Steps.length d2] 46) := ⟨_, rfl⟩
          rw [← hX]
          rw [← hX] at hbX
          have zX : X.heap.size = wr.heap.size + 1 := by rw [hX]; simp
          have hav : wr.heap.size < X.heap.size := by omega
          replace st := st.below hbX.out
          have x0 : X.cell? ⟨wr.heap.size, 0, none⟩ = some (.string x.Nodes[k].Name) := by rw [hX]; go_simp
          have x1 : X.cell? ⟨wr.heap.size, 1, none⟩ = some (.int .i64 x.Nodes[k].Action.Cost) := by rw [hX]; go_simp
          have x2 : X.cell? ⟨wr.heap.size, 2, none⟩ = some (.slice B2 x.Nodes[k].Action.Steps.length d2) := by rw [hX]; go_simp
          replace p1 := cell_below hbX.out p1
          replace p2 := cell_below hbX.out p2
          replace p3 := cell_below hbX.out p3
          have h2 := Asd.mk (h23.out.below (below_st hbw.out hbX.out))
          have hnX := Asd.mk (hn.out.below (below_st (below_st HW.out hbw.out) hbX.out))
          replace zX : X.heap.size ≤ wr.heap.size + 1 := by omega
          clear hX k0 k1 k2
          have e2 := Asd.mk (putTo_at1 (n := n) hlt)
          have hbn1 := hbn.out.1
          have m0 := p1
          have m1 := p2
          have m2 := p3
          have hNB : ¬(PutP w3.heap.size wr.heap.size (w.heap.size + 1) ∧ w.heap.size + 1 < X.heap.size) := fun h => by have := h.1.1; omega
          obtain ⟨R, d, b0, f0, hL, hbr, hsz⟩ := st
          replace hL := Asd.mk hL
          replace hbr := Asd.mk hbr
          refine wp_region_G (last := 7) (S := fun Z => Z.cell? ⟨w3.heap.size, 0, none⟩ = some (.slice R (putTo x.Nodes k 1 n k).length d) ∧ Z.cell? ⟨w.heap.size + 1, 0, none⟩ = some (.string n.Name) ∧ Z.cell? ⟨w.heap.size + 1, 1, none⟩ = some (.int .i64 n.Action.Cost) ∧ Z.cell? ⟨w.heap.size + 1, 2, none⟩ = some (.slice An n.Action.Steps.length cn)) (by kernel_rfl) ?_
          have hH : (X).drew.cell? ⟨w3.heap.size, 0, none⟩ = some (.slice R (putTo x.Nodes k 1 n k).length d) ∧ (X).drew.cell? ⟨w.heap.size + 1, 0, none⟩ = some (.string n.Name) ∧ (X).drew.cell? ⟨w.heap.size + 1, 1, none⟩ = some (.int .i64 n.Action.Cost) ∧ (X).drew.cell? ⟨w.heap.size + 1, 2, none⟩ = some (.slice An n.Action.Steps.length cn) := ⟨b0, m0, m1, m2⟩
          ((refine wpG_take (i := 0) (v := ?_) rfl rfl (by kernel_rfl) (by kernel_rfl) (by kernel_rfl) (by kernel_rfl) (fun _ _ _ h => h) (Or.inl ⟨by rfl, ?_⟩) (by assumption) ?_; rotate_left; (next => ((intro X hX; (try dsimp only at hX); go_simp); try with_reducible rfl))); (try simp only [Act.put, List.setIfInBounds_toArray, List.set_cons_zero, List.set_cons_succ]); (refine wpG_take (i := 1) (v := ?_) rfl rfl (by kernel_rfl) (by kernel_rfl) (by kernel_rfl) (by kernel_rfl) (fun _ _ _ h => h) (Or.inl ⟨by rfl, ?_⟩) (by assumption) ?_; rotate_left; (next => ((intro X hX; (try dsimp only at hX); go_simp); try with_reducible rfl))); (try simp only [Act.put, List.setIfInBounds_toArray, List.set_cons_zero, List.set_cons_succ]); (refine wpG_take (i := 2) (v := ?_) rfl rfl (by kernel_rfl) (by kernel_rfl) (by kernel_rfl) (by kernel_rfl) (fun _ _ _ h => h) (Or.inl ⟨by rfl, ?_⟩) (by assumption) ?_; rotate_left; (next => ((intro X hX; (try dsimp only at hX); go_simp); try with_reducible rfl))); (try simp only [Act.put, List.setIfInBounds_toArray, List.set_cons_zero, List.set_cons_succ]))
          (refine wpG_one (i := 3) (by kernel_rfl) rfl (fun K hK => ?_))
          go_simp
          go_at_call 40
          refine (copyNode_calls n _ (Node.rmk _ (hnX.out.below (by repeat (first | (with_reducible exact Below.refl _ _) | (with_reducible exact Below.refl _ _) | (with_reducible refine below_al ?_ _) | (with_reducible refine below_dr ?_ _) | (with_reducible refine below_d1 ?_) | ((with_reducible refine Below.setCell ?_ ?_ _); rotate_left; (next => first | (simp; done) | (simp; omega) | omega)))))) (by omega) hbn.out.2).mono ?_
          rintro e w5 ⟨us, rfl, hM, hb5_⟩
          have hM2 := Asd.mk (hM.lies.mono (l := (X).heap.size) (by simp))
          obtain ⟨F_, o_, n_, l_⟩ := hM
          obtain ⟨v2_, G2_, rfl, p2_, rfl⟩ := Node.oopen o_
          obtain ⟨D2, d3, rfl, _, _⟩ := own_slice p2_
          clear p2_ n_ l_ o_
          have hb6 := Asd.mk (show Below (X).heap.size (X) w5 from below_st (by repeat (first | (with_reducible exact Below.refl _ _) | (with_reducible exact Below.refl _ _) | (with_reducible refine below_al ?_ _) | (with_reducible refine below_dr ?_ _) | (with_reducible refine below_d1 ?_) | ((with_reducible refine Below.setCell ?_ ?_ _); rotate_left; (next => first | (simp; done) | (simp; omega) | omega)))) hb5_)
          have g0 := cell_below hb6.out b0
          have g1 := cell_below hb6.out m0
          have g2 := cell_below hb6.out m1
          have g3 := cell_below hb6.out m2
          have hsz5 : (X).heap.size ≤ w5.heap.size := hb6.out.size
          have hB5 : w3.heap.size < w5.heap.size := by omega
          have hN5 : w.heap.size + 1 < w5.heap.size := by omega
          clear hb5_ hH
          refine hK.out _ _ (fun _ => ⟨g0, g1, g2, g3⟩) ?_
          clear hK K
          (try simp only [Act.put, List.setIfInBounds_toArray, List.set_cons_zero, List.set_cons_succ])
          have hH : w5.cell? ⟨w3.heap.size, 0, none⟩ = some (.slice R (putTo x.Nodes k 1 n k).length d) ∧ w5.cell? ⟨w.heap.size + 1, 0, none⟩ = some (.string n.Name) ∧ w5.cell? ⟨w.heap.size + 1, 1, none⟩ = some (.int .i64 n.Action.Cost) ∧ w5.cell? ⟨w.heap.size + 1, 2, none⟩ = some (.slice An n.Action.Steps.length cn) := ⟨g0, g1, g2, g3⟩
          (refine wpG_one (i := 4) (by kernel_rfl) rfl (fun K hK => ?_))
          go_simp
          refine hK.out _ _ (fun _ => ⟨by go_simp, by go_simp, by go_simp, by go_simp⟩) ?_
          clear hK K hH
          (try simp only [Act.put, List.setIfInBounds_toArray, List.set_cons_zero, List.set_cons_succ])
          (refine wpG_one (i := 5) (by kernel_rfl) rfl (fun K hK => ?_))
          refine step_appP (by rfl) (by rfl) Try.underlying26 info_Node rfl (by decide) (by rfl) (wr := X) (m0 := (X).heap.size) hL.out (by repeat (first | (with_reducible exact Below.refl _ _) | (with_reducible exact hb6.out) | (with_reducible refine below_al ?_ _) | (with_reducible refine below_dr ?_ _) | (with_reducible refine below_d1 ?_) | ((with_reducible refine Below.setCell ?_ ?_ _); rotate_left; (next => first | (simp; done) | (simp; omega) | omega)))) (Nat.le_refl _) (by rfl) (World.news_of_block (heap_alloc_new _ _)) (by simp) (Lies.below hM2.out (by repeat (first | (with_reducible exact Below.refl _ _) | (with_reducible exact Below.refl _ _) | (with_reducible refine below_al ?_ _) | (with_reducible refine below_dr ?_ _) | (with_reducible refine below_d1 ?_) | ((with_reducible refine Below.setCell ?_ ?_ _); rotate_left; (next => first | (simp; done) | (simp; omega) | omega))))) (by simp [maxLen]; omega) (by omega) ?_
          intro v7 w7 hL7 hF7
          have hnB : ¬(PutP w3.heap.size (wr.heap.size) w3.heap.size ∧ w3.heap.size < (X).heap.size) := fun h => by have := h.1.1; omega
          have t0 := (hF7.cell (b := w3.heap.size) (o := 0) (by first | (simp; done) | (simp; omega)) hnB).trans (by go_simp : _ = some (.slice R (putTo x.Nodes k 1 n k).length d))
          have t4 := (hF7.frozen (b := w3.heap.size) (o := 0) (by first | (simp; done) | (simp; omega)) hnB).trans (((show Below (X).heap.size (X) _ from by repeat (first | (with_reducible exact Below.refl _ _) | (with_reducible exact hb6.out) | (with_reducible refine below_al ?_ _) | (with_reducible refine below_dr ?_ _) | (with_reducible refine below_d1 ?_) | ((with_reducible refine Below.setCell ?_ ?_ _); rotate_left; (next => first | (simp; done) | (simp; omega) | omega)))).frozen (p := ⟨w3.heap.size, 0, none⟩) hsz).trans f0)
          have z7 : w3.heap.size < w7.heap.size := by have := hF7.size; simp at this; omega
          obtain ⟨R7, d7, rfl, _, _⟩ := hL7.slice
          have st := Asd.mk (PutSt.next hbr.out (by repeat (first | (with_reducible exact Below.refl _ _) | (with_reducible exact hb6.out) | (with_reducible refine below_al ?_ _) | (with_reducible refine below_dr ?_ _) | (with_reducible refine below_d1 ?_) | ((with_reducible refine Below.setCell ?_ ?_ _); rotate_left; (next => first | (simp; done) | (simp; omega) | omega)))) hF7 hsz hav b0 f0 hL7)
          have t1 := (hF7.cell (b := w.heap.size + 1) (o := 0) (by first | (simp; done) | (simp; omega)) hNB).trans (by go_simp : _ = some (.string n.Name))
          have t2 := (hF7.cell (b := w.heap.size + 1) (o := 1) (by first | (simp; done) | (simp; omega)) hNB).trans (by go_simp : _ = some (.int .i64 n.Action.Cost))
          have t3 := (hF7.cell (b := w.heap.size + 1) (o := 2) (by first | (simp; done) | (simp; omega)) hNB).trans (by go_simp : _ = some (.slice An n.Action.Steps.length cn))
          have far := Asd.mk (fun (b o : Nat) (h1 : b < (X).heap.size) (h2 : b ≠ w3.heap.size) (h3 : ¬(PutP w3.heap.size (wr.heap.size) b ∧ b < (X).heap.size)) => show (w7.setCell ⟨w3.heap.size, 0, none⟩ (.slice R7 (putTo x.Nodes k 1 n k).length.succ d7)).cell? ⟨b, o, none⟩ = (X).cell? ⟨b, o, none⟩ from by
            rw [World.cell?_setCell_far _ _ _ _ (by simp; omega), hF7.cell (by simp; omega) h3]; exact (show Below (X).heap.size (X) _ from by repeat (first | (with_reducible exact Below.refl _ _) | (with_reducible exact hb6.out) | (with_reducible refine below_al ?_ _) | (with_reducible refine below_dr ?_ _) | (with_reducible refine below_d1 ?_) | ((with_reducible refine Below.setCell ?_ ?_ _); rotate_left; (next => first | (simp; done) | (simp; omega) | omega)))).cell (p := ⟨b, o, none⟩) h1)
          have z8 : (X).heap.size ≤ w7.heap.size := by have := hF7.size; simp at this; omega
          clear hL7 hF7
          refine hK.out _ _ (fun _ => ⟨t0, t1, t2, t3⟩) ?_
          clear hK K
          (try simp only [Act.put, List.setIfInBounds_toArray, List.set_cons_zero, List.set_cons_succ])
          have hH : w7.cell? ⟨w3.heap.size, 0, none⟩ = some (.slice R (putTo x.Nodes k 1 n k).length d) ∧ w7.cell? ⟨w.heap.size + 1, 0, none⟩ = some (.string n.Name) ∧ w7.cell? ⟨w.heap.size + 1, 1, none⟩ = some (.int .i64 n.Action.Cost) ∧ w7.cell? ⟨w.heap.size + 1, 2, none⟩ = some (.slice An n.Action.Steps.length cn) := ⟨t0, t1, t2, t3⟩
          ((refine wpG_take (i := 6) (v := ?_) rfl rfl (by kernel_rfl) (by kernel_rfl) (by kernel_rfl) (by kernel_rfl) (fun _ _ _ h => h) (Or.inl ⟨by rfl, ?_⟩) (by assumption) ?_; rotate_left; (next => ((intro X hX; (try dsimp only at hX); go_simp); try with_reducible rfl))); (try simp only [Act.put, List.setIfInBounds_toArray, List.set_cons_zero, List.set_cons_succ]))
          (refine wpG_one (i := 7) (by kernel_rfl) rfl (fun K hK => ?_))
          go_simp
          refine hK.out _ _ (fun h => absurd rfl h) ?_
          clear hK K hH
          refine wpG_done (by kernel_rfl) ?_ _
          go_wp2
          go_roundw
          case rel => exact ⟨k + 1, by omega, by go_num, by rw [e2.out]; exact st.out.fresh⟩
          case measure => simp [intOf]; omega
        · have e2 := Asd.mk (putTo_gt (t := 1) (n := n) hlt hka (by omega))
          have hne : ¬k = a := by omega
          go_wp2
          obtain ⟨X, hX⟩ : ∃ X : World, X = wr.alloc (.cells #[.string x.Nodes[k].Name, .int .i64 x.Nodes[k].Action.Cost, .slice B2 x.Nodes[k].Action.Steps.length d2] 46) := ⟨_, rfl⟩
          rw [← hX]
          rw [← hX] at hbX
          have zX : X.heap.size = wr.heap.size + 1 := by rw [hX]; simp
          have hav : wr.heap.size < X.heap.size := by omega
          replace st := st.below hbX.out
          have x0 : X.cell? ⟨wr.heap.size, 0, none⟩ = some (.string x.Nodes[k].Name) := by rw [hX]; go_simp
          have x1 : X.cell? ⟨wr.heap.size, 1, none⟩ = some (.int .i64 x.Nodes[k].Action.Cost) := by rw [hX]; go_simp
          have x2 : X.cell? ⟨wr.heap.size, 2, none⟩ = some (.slice B2 x.Nodes[k].Action.Steps.length d2) := by rw [hX]; go_simp
          replace p1 := cell_below hbX.out p1
          replace p2 := cell_below hbX.out p2
          replace p3 := cell_below hbX.out p3
          have h2 := Asd.mk (h23.out.below (below_st hbw.out hbX.out))
          have hnX := Asd.mk (hn.out.below (below_st (below_st HW.out hbw.out) hbX.out))
          replace zX : X.heap.size ≤ wr.heap.size + 1 := by omega
          clear hX k0 k1 k2
          have m0 := x0
          have m1 := x1
          have m2 := x2
          have hNB : ¬(PutP w3.heap.size wr.heap.size wr.heap.size ∧ wr.heap.size < X.heap.size) := fun h => h.1.2 rfl
          obtain ⟨R, d, b0, f0, hL, hbr, hsz⟩ := st
          replace hL := Asd.mk hL
          replace hbr := Asd.mk hbr
          refine wp_region_G (last := 7) (S := fun Z => Z.cell? ⟨w3.heap.size, 0, none⟩ = some (.slice R (putTo x.Nodes a 1 n k).length d) ∧ Z.cell? ⟨wr.heap.size, 0, none⟩ = some (.string x.Nodes[k].Name) ∧ Z.cell? ⟨wr.heap.size, 1, none⟩ = some (.int .i64 x.Nodes[k].Action.Cost) ∧ Z.cell? ⟨wr.heap.size, 2, none⟩ = some (.slice B2 x.Nodes[k].Action.Steps.length d2)) (by kernel_rfl) ?_
          have hH : (X).drew.cell? ⟨w3.heap.size, 0, none⟩ = some (.slice R (putTo x.Nodes a 1 n k).length d) ∧ (X).drew.cell? ⟨wr.heap.size, 0, none⟩ = some (.string x.Nodes[k].Name) ∧ (X).drew.cell? ⟨wr.heap.size, 1, none⟩ = some (.int .i64 x.Nodes[k].Action.Cost) ∧ (X).drew.cell? ⟨wr.heap.size, 2, none⟩ = some (.slice B2 x.Nodes[k].Action.Steps.length d2) := ⟨b0, m0, m1, m2⟩
          ((refine wpG_take (i := 0) (v := ?_) rfl rfl (by kernel_rfl) (by kernel_rfl) (by kernel_rfl) (by kernel_rfl) (fun _ _ _ h => h) (Or.inl ⟨by rfl, ?_⟩) (by assumption) ?_; rotate_left; (next => ((intro X hX; (try dsimp only at hX); go_simp); try with_reducible rfl))); (try simp only [Act.put, List.setIfInBounds_toArray, List.set_cons_zero, List.set_cons_succ]); (refine wpG_take (i := 1) (v := ?_) rfl rfl (by kernel_rfl) (by kernel_rfl) (by kernel_rfl) (by kernel_rfl) (fun _ _ _ h => h) (Or.inl ⟨by rfl, ?_⟩) (by assumption) ?_; rotate_left; (next => ((intro X hX; (try dsimp only at hX); go_simp); try with_reducible rfl))); (try simp only [Act.put, List.setIfInBounds_toArray, List.set_cons_zero, List.set_cons_succ]); (refine wpG_take (i := 2) (v := ?_) rfl rfl (by kernel_rfl) (by kernel_rfl) (by kernel_rfl) (by kernel_rfl) (fun _ _ _ h => h) (Or.inl ⟨by rfl, ?_⟩) (by assumption) ?_; rotate_left; (next => ((intro X hX; (try dsimp only at hX); go_simp); try with_reducible rfl))); (try simp only [Act.put, List.setIfInBounds_toArray, List.set_cons_zero, List.set_cons_succ]))
          (refine wpG_one (i := 3) (by kernel_rfl) rfl (fun K hK => ?_))
          go_simp
          go_at_call 40
          refine (copyNode_calls x.Nodes[k] _ (Node.rmk _ (h2.out.below (by repeat (first | (with_reducible exact Below.refl _ _) | (with_reducible exact Below.refl _ _) | (with_reducible refine below_al ?_ _) | (with_reducible refine below_dr ?_ _) | (with_reducible refine below_d1 ?_) | ((with_reducible refine Below.setCell ?_ ?_ _); rotate_left; (next => first | (simp; done) | (simp; omega) | omega)))))) (by omega) hbnd.2).mono ?_
          rintro e w5 ⟨us, rfl, hM, hb5_⟩
          have hM2 := Asd.mk (hM.lies.mono (l := (X).heap.size) (by simp))
          obtain ⟨F_, o_, n_, l_⟩ := hM
          obtain ⟨v2_, G2_, rfl, p2_, rfl⟩ := Node.oopen o_
          obtain ⟨D2, d3, rfl, _, _⟩ := own_slice p2_
          clear p2_ n_ l_ o_
          have hb6 := Asd.mk (show Below (X).heap.size (X) w5 from below_st (by repeat (first | (with_reducible exact Below.refl _ _) | (with_reducible exact Below.refl _ _) | (with_reducible refine below_al ?_ _) | (with_reducible refine below_dr ?_ _) | (with_reducible refine below_d1 ?_) | ((with_reducible refine Below.setCell ?_ ?_ _); rotate_left; (next => first | (simp; done) | (simp; omega) | omega)))) hb5_)
          have g0 := cell_below hb6.out b0
          have g1 := cell_below hb6.out m0
          have g2 := cell_below hb6.out m1
          have g3 := cell_below hb6.out m2
          have hsz5 : (X).heap.size ≤ w5.heap.size := hb6.out.size
          have hB5 : w3.heap.size < w5.heap.size := by omega
          have hN5 : wr.heap.size < w5.heap.size := by omega
          clear hb5_ hH
          refine hK.out _ _ (fun _ => ⟨g0, g1, g2, g3⟩) ?_
          clear hK K
          (try simp only [Act.put, List.setIfInBounds_toArray, List.set_cons_zero, List.set_cons_succ])
          have hH : w5.cell? ⟨w3.heap.size, 0, none⟩ = some (.slice R (putTo x.Nodes a 1 n k).length d) ∧ w5.cell? ⟨wr.heap.size, 0, none⟩ = some (.string x.Nodes[k].Name) ∧ w5.cell? ⟨wr.heap.size, 1, none⟩ = some (.int .i64 x.Nodes[k].Action.Cost) ∧ w5.cell? ⟨wr.heap.size, 2, none⟩ = some (.slice B2 x.Nodes[k].Action.Steps.length d2) := ⟨g0, g1, g2, g3⟩
          (refine wpG_one (i := 4) (by kernel_rfl) rfl (fun K hK => ?_))
          go_simp
          refine hK.out _ _ (fun _ => ⟨by go_simp, by go_simp, by go_simp, by go_simp⟩) ?_
          clear hK K hH
          (try simp only [Act.put, List.setIfInBounds_toArray, List.set_cons_zero, List.set_cons_succ])
          (refine wpG_one (i := 5) (by kernel_rfl) rfl (fun K hK => ?_))
          refine step_appP (by rfl) (by rfl) Try.underlying26 info_Node rfl (by decide) (by rfl) (wr := X) (m0 := (X).heap.size) hL.out (by repeat (first | (with_reducible exact Below.refl _ _) | (with_reducible exact hb6.out) | (with_reducible refine below_al ?_ _) | (with_reducible refine below_dr ?_ _) | (with_reducible refine below_d1 ?_) | ((with_reducible refine Below.setCell ?_ ?_ _); rotate_left; (next => first | (simp; done) | (simp; omega) | omega)))) (Nat.le_refl _) (by rfl) (World.news_of_block (heap_alloc_new _ _)) (by simp) (Lies.below hM2.out (by repeat (first | (with_reducible exact Below.refl _ _) | (with_reducible exact Below.refl _ _) | (with_reducible refine below_al ?_ _) | (with_reducible refine below_dr ?_ _) | (with_reducible refine below_d1 ?_) | ((with_reducible refine Below.setCell ?_ ?_ _); rotate_left; (next => first | (simp; done) | (simp; omega) | omega))))) (by simp [maxLen]; omega) (by omega) ?_
          intro v7 w7 hL7 hF7
          have hnB : ¬(PutP w3.heap.size (wr.heap.size) w3.heap.size ∧ w3.heap.size < (X).heap.size) := fun h => by have := h.1.1; omega
          have t0 := (hF7.cell (b := w3.heap.size) (o := 0) (by first | (simp; done) | (simp; omega)) hnB).trans (by go_simp : _ = some (.slice R (putTo x.Nodes a 1 n k).length d))
          have t4 := (hF7.frozen (b := w3.heap.size) (o := 0) (by first | (simp; done) | (simp; omega)) hnB).trans (((show Below (X).heap.size (X) _ from by repeat (first | (with_reducible exact Below.refl _ _) | (with_reducible exact hb6.out) | (with_reducible refine below_al ?_ _) | (with_reducible refine below_dr ?_ _) | (with_reducible refine below_d1 ?_) | ((with_reducible refine Below.setCell ?_ ?_ _); rotate_left; (next => first | (simp; done) | (simp; omega) | omega)))).frozen (p := ⟨w3.heap.size, 0, none⟩) hsz).trans f0)
          have z7 : w3.heap.size < w7.heap.size := by have := hF7.size; simp at this; omega
          obtain ⟨R7, d7, rfl, _, _⟩ := hL7.slice
          have st := Asd.mk (PutSt.next hbr.out (by repeat (first | (with_reducible exact Below.refl _ _) | (with_reducible exact hb6.out) | (with_reducible refine below_al ?_ _) | (with_reducible refine below_dr ?_ _) | (with_reducible refine below_d1 ?_) | ((with_reducible refine Below.setCell ?_ ?_ _); rotate_left; (next => first | (simp; done) | (simp; omega) | omega)))) hF7 hsz hav b0 f0 hL7)
          have t1 := (hF7.cell (b := wr.heap.size) (o := 0) (by first | (simp; done) | (simp; omega)) hNB).trans (by go_simp : _ = some (.string x.Nodes[k].Name))
          have t2 := (hF7.cell (b := wr.heap.size) (o := 1) (by first | (simp; done) | (simp; omega)) hNB).trans (by go_simp : _ = some (.int .i64 x.Nodes[k].Action.Cost))
          have t3 := (hF7.cell (b := wr.heap.size) (o := 2) (by first | (simp; done) | (simp; omega)) hNB).trans (by go_simp : _ = some (.slice B2 x.Nodes[k].Action.Steps.length d2))
          have far := Asd.mk (fun (b o : Nat) (h1 : b < (X).heap.size) (h2 : b ≠ w3.heap.size) (h3 : ¬(PutP w3.heap.size (wr.heap.size) b ∧ b < (X).heap.size)) => show (w7.setCell ⟨w3.heap.size, 0, none⟩ (.slice R7 (putTo x.Nodes a 1 n k).length.succ d7)).cell? ⟨b, o, none⟩ = (X).cell? ⟨b, o, none⟩ from by
            rw [World.cell?_setCell_far _ _ _ _ (by simp; omega), hF7.cell (by simp; omega) h3]; exact (show Below (X).heap.size (X) _ from by repeat (first | (with_reducible exact Below.refl _ _) | (with_reducible exact hb6.out) | (with_reducible refine below_al ?_ _) | (with_reducible refine below_dr ?_ _) | (with_reducible refine below_d1 ?_) | ((with_reducible refine Below.setCell ?_ ?_ _); rotate_left; (next => first | (simp; done) | (simp; omega) | omega)))).cell (p := ⟨b, o, none⟩) h1)
          have z8 : (X).heap.size ≤ w7.heap.size := by have := hF7.size; simp at this; omega
          clear hL7 hF7
          refine hK.out _ _ (fun _ => ⟨t0, t1, t2, t3⟩) ?_
          clear hK K
          (try simp only [Act.put, List.setIfInBounds_toArray, List.set_cons_zero, List.set_cons_succ])
          have hH : w7.cell? ⟨w3.heap.size, 0, none⟩ = some (.slice R (putTo x.Nodes a 1 n k).length d) ∧ w7.cell? ⟨wr.heap.size, 0, none⟩ = some (.string x.Nodes[k].Name) ∧ w7.cell? ⟨wr.heap.size, 1, none⟩ = some (.int .i64 x.Nodes[k].Action.Cost) ∧ w7.cell? ⟨wr.heap.size, 2, none⟩ = some (.slice B2 x.Nodes[k].Action.Steps.length d2) := ⟨t0, t1, t2, t3⟩
          ((refine wpG_take (i := 6) (v := ?_) rfl rfl (by kernel_rfl) (by kernel_rfl) (by kernel_rfl) (by kernel_rfl) (fun _ _ _ h => h) (Or.inl ⟨by rfl, ?_⟩) (by assumption) ?_; rotate_left; (next => ((intro X hX; (try dsimp only at hX); go_simp); try with_reducible rfl))); (try simp only [Act.put, List.setIfInBounds_toArray, List.set_cons_zero, List.set_cons_succ]))
          (refine wpG_one (i := 7) (by kernel_rfl) rfl (fun K hK => ?_))
          go_simp
          refine hK.out _ _ (fun h => absurd rfl h) ?_
          clear hK K hH
          refine wpG_done (by kernel_rfl) ?_ _
          go_wp2
          go_roundw
          case rel => exact ⟨k + 1, by omega, by go_num, by rw [e2.out]; exact st.out.fresh⟩
          case measure => simp [intOf]; omega
      · obtain rfl : k = x.Nodes.length := by omega
        have e2 := Asd.mk (putTo_end (t := 1) (n := n) hat)
        have hne : ¬a = x.Nodes.length := by omega
        have p0 := cell_below hbw.out b0
        obtain ⟨R, d, b0, f0, hL, hbr, hsz⟩ := st
        have p4 := cell_below hbw.out b4
        have p5 := (hbw.out.frozen (p := ⟨w.heap.size + 1 + 1, 0, none⟩) y2).trans f4
        have s0 : w.heap.size < (wr).heap.size := by omega
        have s2 : w.heap.size + 1 + 1 < (wr).heap.size := by omega
        replace hL := Asd.mk hL
        replace hbr := Asd.mk hbr
        go_wp2
        refine bodyPost_ret (v := .tuple #[.agg #[.slice R (putTo x.Nodes a 1 n x.Nodes.length).length d], .int .i64 0]) (by simp [results, Try.results17, go_sem, *]) rfl ?_
        rw [e1.out, hlb.out]
        refine ⟨_, rfl, ?_, by repeat (first | (with_reducible exact Below.refl _ _) | (with_reducible exact below_st HW.out hbw.out) | (with_reducible refine below_al ?_ _) | (with_reducible refine below_dr ?_ _) | (with_reducible refine below_d1 ?_) | ((with_reducible refine Below.setCell ?_ ?_ _); rotate_left; (next => first | (simp; done) | (simp; omega) | omega)))⟩
        show Lie _ _ (NodesT _ _ _ (putAll x.Nodes _ _ n)) _
        unfold tB
        simp only [if_true, if_false, Bool.false_eq_true]
        rw [← e2.out]
        exact (hL.out.set (a := ⟨w.heap.size + 1 + 1, 0, none⟩) (fun h => by have := h.1; simp at this; omega) _).lie (fun b hb => by have := hb.1; omega)
  | false =>
    replace q6 := q6 rfl
    go_enter Try.func17, Try.ntmps17
    go_wp2_with fail
    refine (CheckWeb_calls x _ (Web.rmk x (h0.out.below HB.out)) hz1.out).mono ?_
    rintro e w1 ⟨rfl, hb⟩
    obtain ⟨hcx, hfx⟩ := bcell hb
    have hzz : w.heap.size + 1 + 1 < w1.heap.size := by have := hb.size; simp at this; omega
    have hzy : w.heap.size < w1.heap.size := by omega
    have hzx : w.heap.size + 1 < w1.heap.size := by omega
    have HW := Asd.mk (below_st HB.out hb)
    clear hb
    rw [q1]
    go_wp2_with (first | (go_at_call 38; refine (goodName_calls _ _).mono ?_; rintro e w' ⟨rfl, rfl⟩))
    refine (ValidAction_calls n.Action _ (Action.rmk _ (hn.out.below HW.out)) hz2.out).mono ?_
    rintro e w2 ⟨rfl, hb⟩
    have b0 : w2.cell? ⟨w.heap.size, 0, none⟩ = some (.slice A x.Nodes.length c) := by rw [hb.cell (by simp; omega), hcx _ _ (by first | (simp; done) | (simp; omega))]; go_simp
    have b1 : w2.cell? ⟨w.heap.size + 1, 0, none⟩ = some (.string n.Name) := by rw [hb.cell (by simp; omega), hcx _ _ (by first | (simp; done) | (simp; omega))]; go_simp
    have b2 : w2.cell? ⟨w.heap.size + 1, 1, none⟩ = some (.int .i64 n.Action.Cost) := by rw [hb.cell (by simp; omega), hcx _ _ (by first | (simp; done) | (simp; omega))]; go_simp
    have b3 : w2.cell? ⟨w.heap.size + 1, 2, none⟩ = some (.slice An n.Action.Steps.length cn) := by rw [hb.cell (by simp; omega), hcx _ _ (by first | (simp; done) | (simp; omega))]; go_simp
    have b4 : w2.cell? ⟨w.heap.size + 1 + 1, 0, none⟩ = some (.slice none 0 0) := by rw [hb.cell (by simp; omega), hcx _ _ (by first | (simp; done) | (simp; omega))]; go_simp
    have f4 : w2.frozen? ⟨w.heap.size + 1 + 1, 0, none⟩ = false := by rw [hb.frozen (by simp; omega), hfx _ _ (by first | (simp; done) | (simp; omega))]; go_simp
    have y0 : w.heap.size < w2.heap.size := by have := hb.size; omega
    have y1 : w.heap.size + 1 < w2.heap.size := by have := hb.size; omega
    have y2 : w.heap.size + 1 + 1 < w2.heap.size := by have := hb.size; omega
    replace HW := Asd.mk (below_st HW.out hb)
    clear hb hcx hfx hzz hzy hzx
    rw [q3]
    go_wp2_with fail
    refine (find_calls x n.Name _ (Web.rmk x (h0.out.below HW.out)) hasc.out (by omega)).mono ?_
    rintro e w3 ⟨a, ha, rfl, hb⟩
    replace b0 := cell_below hb b0
    replace b1 := cell_below hb b1
    replace b2 := cell_below hb b2
    replace b3 := cell_below hb b3
    replace b4 := cell_below hb b4
    replace f4 := (hb.frozen (p := ⟨w.heap.size + 1 + 1, 0, none⟩) y2).trans f4
    replace y0 : w.heap.size < w3.heap.size := by have := hb.size; omega
    replace y1 : w.heap.size + 1 < w3.heap.size := by have := hb.size; omega
    replace y2 : w.heap.size + 1 + 1 < w3.heap.size := by have := hb.size; omega
    replace HW := Asd.mk (below_st HW.out hb)
    clear hb
    rw [ht]
    have hlb := Asd.mk ha.lb
    have hle : a ≤ x.Nodes.length := ha.1
    clear ha ht
    go_wp2
    go_loopw [45] (fun i wr => ∃ k : Nat, k ≤ x.Nodes.length ∧ i = .int .i64 k ∧ PutSt w3 w3.heap.size wr.heap.size (putTo x.Nodes a 0 n k) wr) (fun i _ => x.Nodes.length - (intOf i).toNat)
    case atStart => exact ⟨0, by omega, rfl, .none, 0, by rw [putTo_zero]; go_simp, by go_simp, by rw [putTo_zero]; exact LieP.nil _ _ _ _, below_al (Below.refl _ _) _, by simp⟩
    case round =>
      obtain ⟨k, hk, rfl, st⟩ := hrel
      have hbw := Asd.mk (st.choose_spec.choose_spec.2.2.2.1)
      have hszw := st.choose_spec.choose_spec.2.2.2.2
      have hlen := putTo_len (a := a) (t := 0) (n := n) hk
      by_cases hlt : k < x.Nodes.length
      · skip
        obtain ⟨ad, c', u2, he, k0, k1, k2, h23, hr⟩ := Node.elem (h0.out.below HW.out) hlt
        cases he
        obtain ⟨B2, d2, rfl, _, _⟩ := rep_len h23
        replace h23 := Asd.mk h23
        replace k0 := cell_below hbw.out k0
        replace k1 := cell_below hbw.out k1
        replace k2 := cell_below hbw.out k2
        clear hr
        have p1 := cell_below hbw.out b1
        have p2 := cell_below hbw.out b2
        have p3 := cell_below hbw.out b3
        have hbnd := hbd.out k hlt
        have s0 : w.heap.size + 1 < wr.heap.size := by omega
        have hbX := Asd.mk (below_al (Below.refl wr.heap.size wr) (.cells #[.string x.Nodes[k].Name, .int .i64 x.Nodes[k].Action.Cost, .slice B2 x.Nodes[k].Action.Steps.length d2] 46))
        rcases Nat.lt_trichotomy k a with hka | hka | hka
        · have e2 := Asd.mk (putTo_lt (t := 0) (n := n) hlt hka)
          have hne : ¬k = a := by omega
          go_wp2
          obtain ⟨X, hX⟩ : ∃ X : World, X = wr.alloc (.cells #[.string x.Nodes[k].Name, .int .i64 x.Nodes[k].Action.Cost, .slice B2 x.Nodes[k].Action.Steps.length d2] 46) := ⟨_, rfl⟩
          rw [← hX]
          rw [← hX] at hbX
          have zX : X.heap.size = wr.heap.size + 1 := by rw [hX]; simp
          have hav : wr.heap.size < X.heap.size := by omega
          replace st := st.below hbX.out
          have x0 : X.cell? ⟨wr.heap.size, 0, none⟩ = some (.string x.Nodes[k].Name) := by rw [hX]; go_simp
          have x1 : X.cell? ⟨wr.heap.size, 1, none⟩ = some (.int .i64 x.Nodes[k].Action.Cost) := by rw [hX]; go_simp
          have x2 : X.cell? ⟨wr.heap.size, 2, none⟩ = some (.slice B2 x.Nodes[k].Action.Steps.length d2) := by rw [hX]; go_simp
          replace p1 := cell_below hbX.out p1
          replace p2 := cell_below hbX.out p2
          replace p3 := cell_below hbX.out p3
          have h2 := Asd.mk (h23.out.below (below_st hbw.out hbX.out))
          have hnX := Asd.mk (hn.out.below (below_st (below_st HW.out hbw.out) hbX.out))
          replace zX : X.heap.size ≤ wr.heap.size + 1 := by omega
          clear hX k0 k1 k2
          have m0 := x0
          have m1 := x1
          have m2 := x2
          have hNB : ¬(PutP w3.heap.size wr.heap.size wr.heap.size ∧ wr.heap.size < X.heap.size) := fun h => h.1.2 rfl
          obtain ⟨R, d, b0, f0, hL, hbr, hsz⟩ := st
          replace hL := Asd.mk hL
          replace hbr := Asd.mk hbr
          refine wp_region_G (last := 7) (S := fun Z => Z.cell? ⟨w3.heap.size, 0, none⟩ = some (.slice R (putTo x.Nodes a 0 n k).length d) ∧ Z.cell? ⟨wr.heap.size, 0, none⟩ = some (.string x.Nodes[k].Name) ∧ Z.cell? ⟨wr.heap.size, 1, none⟩ = some (.int .i64 x.Nodes[k].Action.Cost) ∧ Z.cell? ⟨wr.heap.size, 2, none⟩ = some (.slice B2 x.Nodes[k].Action.Steps.length d2)) (by kernel_rfl) ?_
          have hH : (X).drew.cell? ⟨w3.heap.size, 0, none⟩ = some (.slice R (putTo x.Nodes a 0 n k).length d) ∧ (X).drew.cell? ⟨wr.heap.size, 0, none⟩ = some (.string x.Nodes[k].Name) ∧ (X).drew.cell? ⟨wr.heap.size, 1, none⟩ = some (.int .i64 x.Nodes[k].Action.Cost) ∧ (X).drew.cell? ⟨wr.heap.size, 2, none⟩ = some (.slice B2 x.Nodes[k].Action.Steps.length d2) := ⟨b0, m0, m1, m2⟩
          ((refine wpG_take (i := 0) (v := ?_) rfl rfl (by kernel_rfl) (by kernel_rfl) (by kernel_rfl) (by kernel_rfl) (fun _ _ _ h => h) (Or.inl ⟨by rfl, ?_⟩) (by assumption) ?_; rotate_left; (next => ((intro X hX; (try dsimp only at hX); go_simp); try with_reducible rfl))); (try simp only [Act.put, List.setIfInBounds_toArray, List.set_cons_zero, List.set_cons_succ]); (refine wpG_take (i := 1) (v := ?_) rfl rfl (by kernel_rfl) (by kernel_rfl) (by kernel_rfl) (by kernel_rfl) (fun _ _ _ h => h) (Or.inl ⟨by rfl, ?_⟩) (by assumption) ?_; rotate_left; (next => ((intro X hX; (try dsimp only at hX); go_simp); try with_reducible rfl))); (try simp only [Act.put, List.setIfInBounds_toArray, List.set_cons_zero, List.set_cons_succ]); (refine wpG_take (i := 2) (v := ?_) rfl rfl (by kernel_rfl) (by kernel_rfl) (by kernel_rfl) (by kernel_rfl) (fun _ _ _ h => h) (Or.inl ⟨by rfl, ?_⟩) (by assumption) ?_; rotate_left; (next => ((intro X hX; (try dsimp only at hX); go_simp); try with_reducible rfl))); (try simp only [Act.put, List.setIfInBounds_toArray, List.set_cons_zero, List.set_cons_succ]))
          (refine wpG_one (i := 3) (by kernel_rfl) rfl (fun K hK => ?_))
          go_simp
          go_at_call 40
          refine (copyNode_calls x.Nodes[k] _ (Node.rmk _ (h2.out.below (by repeat (first | (with_reducible exact Below.refl _ _) | (with_reducible exact Below.refl _ _) | (with_reducible refine below_al ?_ _) | (with_reducible refine below_dr ?_ _) | (with_reducible refine below_d1 ?_) | ((with_reducible refine Below.setCell ?_ ?_ _); rotate_left; (next => first | (simp; done) | (simp; omega) | omega)))))) (by omega) hbnd.2).mono ?_
          rintro e w5 ⟨us, rfl, hM, hb5_⟩
          have hM2 := Asd.mk (hM.lies.mono (l := (X).heap.size) (by simp))
          obtain ⟨F_, o_, n_, l_⟩ := hM
          obtain ⟨v2_, G2_, rfl, p2_, rfl⟩ := Node.oopen o_
          obtain ⟨D2, d3, rfl, _, _⟩ := own_slice p2_
          clear p2_ n_ l_ o_
          have hb6 := Asd.mk (show Below (X).heap.size (X) w5 from below_st (by repeat (first | (with_reducible exact Below.refl _ _) | (with_reducible exact Below.refl _ _) | (with_reducible refine below_al ?_ _) | (with_reducible refine below_dr ?_ _) | (with_reducible refine below_d1 ?_) | ((with_reducible refine Below.setCell ?_ ?_ _); rotate_left; (next => first | (simp; done) | (simp; omega) | omega)))) hb5_)
          have g0 := cell_below hb6.out b0
          have g1 := cell_below hb6.out m0
          have g2 := cell_below hb6.out m1
          have g3 := cell_below hb6.out m2
          have hsz5 : (X).heap.size ≤ w5.heap.size := hb6.out.size
          have hB5 : w3.heap.size < w5.heap.size := by omega
          have hN5 : wr.heap.size < w5.heap.size := by omega
          clear hb5_ hH
          refine hK.out _ _ (fun _ => ⟨g0, g1, g2, g3⟩) ?_
          clear hK K
          (try simp only [Act.put, List.setIfInBounds_toArray, List.set_cons_zero, List.set_cons_succ])
          have hH : w5.cell? ⟨w3.heap.size, 0, none⟩ = some (.slice R (putTo x.Nodes a 0 n k).length d) ∧ w5.cell? ⟨wr.heap.size, 0, none⟩ = some (.string x.Nodes[k].Name) ∧ w5.cell? ⟨wr.heap.size, 1, none⟩ = some (.int .i64 x.Nodes[k].Action.Cost) ∧ w5.cell? ⟨wr.heap.size, 2, none⟩ = some (.slice B2 x.Nodes[k].Action.Steps.length d2) := ⟨g0, g1, g2, g3⟩
          (refine wpG_one (i := 4) (by kernel_rfl) rfl (fun K hK => ?_))
          go_simp
          refine hK.out _ _ (fun _ => ⟨by go_simp, by go_simp, by go_simp, by go_simp⟩) ?_
          clear hK K hH
          (try simp only [Act.put, List.setIfInBounds_toArray, List.set_cons_zero, List.set_cons_succ])
          (refine wpG_one (i := 5) (by kernel_rfl) rfl (fun K hK => ?_))
          refine step_appP (by rfl) (by rfl) Try.underlying26 info_Node rfl (by decide) (by rfl) (wr := X) (m0 := (X).heap.size) hL.out (by repeat (first | (with_reducible exact Below.refl _ _) | (with_reducible exact hb6.out) | (with_reducible refine below_al ?_ _) | (with_reducible refine below_dr ?_ _) | (with_reducible refine below_d1 ?_) | ((with_reducible refine Below.setCell ?_ ?_ _); rotate_left; (next => first | (simp; done) | (simp; omega) | omega)))) (Nat.le_refl _) (by rfl) (World.news_of_block (heap_alloc_new _ _)) (by simp) (Lies.below hM2.out (by repeat (first | (with_reducible exact Below.refl _ _) | (with_reducible exact Below.refl _ _) | (with_reducible refine below_al ?_ _) | (with_reducible refine below_dr ?_ _) | (with_reducible refine below_d1 ?_) | ((with_reducible refine Below.setCell ?_ ?_ _); rotate_left; (next => first | (simp; done) | (simp; omega) | omega))))) (by simp [maxLen]; omega) (by omega) ?_
          intro v7 w7 hL7 hF7
          have hnB : ¬(PutP w3.heap.size (wr.heap.size) w3.heap.size ∧ w3.heap.size < (X).heap.size) := fun h => by have := h.1.1; omega
          have t0 := (hF7.cell (b := w3.heap.size) (o := 0) (by first | (simp; done) | (simp; omega)) hnB).trans (by go_simp : _ = some (.slice R (putTo x.Nodes a 0 n k).length d))
          have t4 := (hF7.frozen (b := w3.heap.size) (o := 0) (by first | (simp; done) | (simp; omega)) hnB).trans (((show Below (X).heap.size (X) _ from by repeat (first | (with_reducible exact Below.refl _ _) | (with_reducible exact hb6.out) | (with_reducible refine below_al ?_ _) | (with_reducible refine below_dr ?_ _) | (with_reducible refine below_d1 ?_) | ((with_reducible refine Below.setCell ?_ ?_ _); rotate_left; (next => first | (simp; done) | (simp; omega) | omega)))).frozen (p := ⟨w3.heap.size, 0, none⟩) hsz).trans f0)
          have z7 : w3.heap.size < w7.heap.size := by have := hF7.size; simp at this; omega
          obtain ⟨R7, d7, rfl, _, _⟩ := hL7.slice
          have st := Asd.mk (PutSt.next hbr.out (by repeat (first | (with_reducible exact Below.refl _ _) | (with_reducible exact hb6.out) | (with_reducible refine below_al ?_ _) | (with_reducible refine below_dr ?_ _) | (with_reducible refine below_d1 ?_) | ((with_reducible refine Below.setCell ?_ ?_ _); rotate_left; (next => first | (simp; done) | (simp; omega) | omega)))) hF7 hsz hav b0 f0 hL7)
          have t1 := (hF7.cell (b := wr.heap.size) (o := 0) (by first | (simp; done) | (simp; omega)) hNB).trans (by go_simp : _ = some (.string x.Nodes[k].Name))
          have t2 := (hF7.cell (b := wr.heap.size) (o := 1) (by first | (simp; done) | (simp; omega)) hNB).trans (by go_simp : _ = some (.int .i64 x.Nodes[k].Action.Cost))
          have t3 := (hF7.cell (b := wr.heap.size) (o := 2) (by first | (simp; done) | (simp; omega)) hNB).trans (by go_simp : _ = some (.slice B2 x.Nodes[k].Action.Steps.length d2))
          have far := Asd.mk (fun (b o : Nat) (h1 : b < (X).heap.size) (h2 : b ≠ w3.heap.size) (h3 : ¬(PutP w3.heap.size (wr.heap.size) b ∧ b < (X).heap.size)) => show (w7.setCell ⟨w3.heap.size, 0, none⟩ (.slice R7 (putTo x.Nodes a 0 n k).length.succ d7)).cell? ⟨b, o, none⟩ = (X).cell? ⟨b, o, none⟩ from by
            rw [World.cell?_setCell_far _ _ _ _ (by simp; omega), hF7.cell (by simp; omega) h3]; exact (show Below (X).heap.size (X) _ from by repeat (first | (with_reducible exact Below.refl _ _) | (with_reducible exact hb6.out) | (with_reducible refine below_al ?_ _) | (with_reducible refine below_dr ?_ _) | (with_reducible refine below_d1 ?_) | ((with_reducible refine Below.setCell ?_ ?_ _); rotate_left; (next => first | (simp; done) | (simp; omega) | omega)))).cell (p := ⟨b, o, none⟩) h1)
          have z8 : (X).heap.size ≤ w7.heap.size := by have := hF7.size; simp at this; omega
          clear hL7 hF7
          refine hK.out _ _ (fun _ => ⟨t0, t1, t2, t3⟩) ?_
          clear hK K
          (try simp only [Act.put, List.setIfInBounds_toArray, List.set_cons_zero, List.set_cons_succ])
          have hH : w7.cell? ⟨w3.heap.size, 0, none⟩ = some (.slice R (putTo x.Nodes a 0 n k).length d) ∧ w7.cell? ⟨wr.heap.size, 0, none⟩ = some (.string x.Nodes[k].Name) ∧ w7.cell? ⟨wr.heap.size, 1, none⟩ = some (.int .i64 x.Nodes[k].Action.Cost) ∧ w7.cell? ⟨wr.heap.size, 2, none⟩ = some (.slice B2 x.Nodes[k].Action.Steps.length d2) := ⟨t0, t1, t2, t3⟩
          ((refine wpG_take (i := 6) (v := ?_) rfl rfl (by kernel_rfl) (by kernel_rfl) (by kernel_rfl) (by kernel_rfl) (fun _ _ _ h => h) (Or.inl ⟨by rfl, ?_⟩) (by assumption) ?_; rotate_left; (next => ((intro X hX; (try dsimp only at hX); go_simp); try with_reducible rfl))); (try simp only [Act.put, List.setIfInBounds_toArray, List.set_cons_zero, List.set_cons_succ]))
          (refine wpG_one (i := 7) (by kernel_rfl) rfl (fun K hK => ?_))
          go_simp
          refine hK.out _ _ (fun h => absurd rfl h) ?_
          clear hK K hH
          refine wpG_done (by kernel_rfl) ?_ _
          go_wp2
          go_roundw
          case rel => exact ⟨k + 1, by omega, by go_num, by rw [e2.out]; exact st.out.fresh⟩
          case measure => simp [intOf]; omega
        · subst hka
          go_wp2
          obtain ⟨X, hX⟩ : ∃ X : World, X = wr.alloc (.cells #[.string x.Nodes[k].Name, .int .i64 x.Nodes[k].Action.Cost, .slice B2 x.Nodes[k].Action.Steps.length d2] 46) := ⟨_, rfl⟩
          rw [← hX]
          rw [← hX] at hbX
          have zX : X.heap.size = wr.heap.size + 1 := by rw [hX]; simp
          have hav : wr.heap.size < X.heap.size := by omega
          replace st := st.below hbX.out
          have x0 : X.cell? ⟨wr.heap.size, 0, none⟩ = some (.string x.Nodes[k].Name) := by rw [hX]; go_simp
          have x1 : X.cell? ⟨wr.heap.size, 1, none⟩ = some (.int .i64 x.Nodes[k].Action.Cost) := by rw [hX]; go_simp
          have x2 : X.cell? ⟨wr.heap.size, 2, none⟩ = some (.slice B2 x.Nodes[k].Action.Steps.length d2) := by rw [hX]; go_simp
          replace p1 := cell_below hbX.out p1
          replace p2 := cell_below hbX.out p2
          replace p3 := cell_below hbX.out p3
          have h2 := Asd.mk (h23.out.below (below_st hbw.out hbX.out))
          have hnX := Asd.mk (hn.out.below (below_st (below_st HW.out hbw.out) hbX.out))
          replace zX : X.heap.size ≤ wr.heap.size + 1 := by omega
          clear hX k0 k1 k2
          have e2 := Asd.mk (putTo_at0 (n := n) hlt)
          have hbn1 := hbn.out.1
          have m0 := p1
          have m1 := p2
          have m2 := p3
          have hNB : ¬(PutP w3.heap.size wr.heap.size (w.heap.size + 1) ∧ w.heap.size + 1 < X.heap.size) := fun h => by have := h.1.1; omega
          obtain ⟨R, d, b0, f0, hL, hbr, hsz⟩ := st
          replace hL := Asd.mk hL
          replace hbr := Asd.mk hbr
          refine wp_region_G (last := 7) (S := fun Z => Z.cell? ⟨w3.heap.size, 0, none⟩ = some (.slice R (putTo x.Nodes k 0 n k).length d) ∧ Z.cell? ⟨w.heap.size + 1, 0, none⟩ = some (.string n.Name) ∧ Z.cell? ⟨w.heap.size + 1, 1, none⟩ = some (.int .i64 n.Action.Cost) ∧ Z.cell? ⟨w.heap.size + 1, 2, none⟩ = some (.slice An n.Action.Steps.length cn)) (by kernel_rfl) ?_
          have hH : (X).drew.cell? ⟨w3.heap.size, 0, none⟩ = some (.slice R (putTo x.Nodes k 0 n k).length d) ∧ (X).drew.cell? ⟨w.heap.size + 1, 0, none⟩ = some (.string n.Name) ∧ (X).drew.cell? ⟨w.heap.size + 1, 1, none⟩ = some (.int .i64 n.Action.Cost) ∧ (X).drew.cell? ⟨w.heap.size + 1, 2, none⟩ = some (.slice An n.Action.Steps.length cn) := ⟨b0, m0, m1, m2⟩
          ((refine wpG_take (i := 0) (v := ?_) rfl rfl (by kernel_rfl) (by kernel_rfl) (by kernel_rfl) (by kernel_rfl) (fun _ _ _ h => h) (Or.inl ⟨by rfl, ?_⟩) (by assumption) ?_; rotate_left; (next => ((intro X hX; (try dsimp only at hX); go_simp); try with_reducible rfl))); (try simp only [Act.put, List.setIfInBounds_toArray, List.set_cons_zero, List.set_cons_succ]); (refine wpG_take (i := 1) (v := ?_) rfl rfl (by kernel_rfl) (by kernel_rfl) (by kernel_rfl) (by kernel_rfl) (fun _ _ _ h => h) (Or.inl ⟨by rfl, ?_⟩) (by assumption) ?_; rotate_left; (next => ((intro X hX; (try dsimp only at hX); go_simp); try with_reducible rfl))); (try simp only [Act.put, List.setIfInBounds_toArray, List.set_cons_zero, List.set_cons_succ]); (refine wpG_take (i := 2) (v := ?_) rfl rfl (by kernel_rfl) (by kernel_rfl) (by kernel_rfl) (by kernel_rfl) (fun _ _ _ h => h) (Or.inl ⟨by rfl, ?_⟩) (by assumption) ?_; rotate_left; (next => ((intro X hX; (try dsimp only at hX); go_simp); try with_reducible rfl))); (try simp only [Act.put, List.setIfInBounds_toArray, List.set_cons_zero, List.set_cons_succ]))
          (refine wpG_one (i := 3) (by kernel_rfl) rfl (fun K hK => ?_))
          go_simp
          go_at_call 40
          refine (copyNode_calls n _ (Node.rmk _ (hnX.out.below (by repeat (first | (with_reducible exact Below.refl _ _) | (with_reducible exact Below.refl _ _) | (with_reducible refine below_al ?_ _) | (with_reducible refine below_dr ?_ _) | (with_reducible refine below_d1 ?_) | ((with_reducible refine Below.setCell ?_ ?_ _); rotate_left; (next => first | (simp; done) | (simp; omega) | omega)))))) (by omega) hbn.out.2).mono ?_
          rintro e w5 ⟨us, rfl, hM, hb5_⟩
          have hM2 := Asd.mk (hM.lies.mono (l := (X).heap.size) (by simp))
          obtain ⟨F_, o_, n_, l_⟩ := hM
          obtain ⟨v2_, G2_, rfl, p2_, rfl⟩ := Node.oopen o_
          obtain ⟨D2, d3, rfl, _, _⟩ := own_slice p2_
          clear p2_ n_ l_ o_
          have hb6 := Asd.mk (show Below (X).heap.size (X) w5 from below_st (by repeat (first | (with_reducible exact Below.refl _ _) | (with_reducible exact Below.refl _ _) | (with_reducible refine below_al ?_ _) | (with_reducible refine below_dr ?_ _) | (with_reducible refine below_d1 ?_) | ((with_reducible refine Below.setCell ?_ ?_ _); rotate_left; (next => first | (simp; done) | (simp; omega) | omega)))) hb5_)
          have g0 := cell_below hb6.out b0
          have g1 := cell_below hb6.out m0
          have g2 := cell_below hb6.out m1
          have g3 := cell_below hb6.out m2
          have hsz5 : (X).heap.size ≤ w5.heap.size := hb6.out.size
          have hB5 : w3.heap.size < w5.heap.size := by omega
          have hN5 : w.heap.size + 1 < w5.heap.size := by omega
          clear hb5_ hH
          refine hK.out _ _ (fun _ => ⟨g0, g1, g2, g3⟩) ?_
          clear hK K
          (try simp only [Act.put, List.setIfInBounds_toArray, List.set_cons_zero, List.set_cons_succ])
          have hH : w5.cell? ⟨w3.heap.size, 0, none⟩ = some (.slice R (putTo x.Nodes k 0 n k).length d) ∧ w5.cell? ⟨w.heap.size + 1, 0, none⟩ = some (.string n.Name) ∧ w5.cell? ⟨w.heap.size + 1, 1, none⟩ = some (.int .i64 n.Action.Cost) ∧ w5.cell? ⟨w.heap.size + 1, 2, none⟩ = some (.slice An n.Action.Steps.length cn) := ⟨g0, g1, g2, g3⟩
          (refine wpG_one (i := 4) (by kernel_rfl) rfl (fun K hK => ?_))
          go_simp
          refine hK.out _ _ (fun _ => ⟨by go_simp, by go_simp, by go_simp, by go_simp⟩) ?_
          clear hK K hH
          (try simp only [Act.put, List.setIfInBounds_toArray, List.set_cons_zero, List.set_cons_succ])
          (refine wpG_one (i := 5) (by kernel_rfl) rfl (fun K hK => ?_))
          refine step_appP (by rfl) (by rfl) Try.underlying26 info_Node rfl (by decide) (by rfl) (wr := X) (m0 := (X).heap.size) hL.out (by repeat (first | (with_reducible exact Below.refl _ _) | (with_reducible exact hb6.out) | (with_reducible refine below_al ?_ _) | (with_reducible refine below_dr ?_ _) | (with_reducible refine below_d1 ?_) | ((with_reducible refine Below.setCell ?_ ?_ _); rotate_left; (next => first | (simp; done) | (simp; omega) | omega)))) (Nat.le_refl _) (by rfl) (World.news_of_block (heap_alloc_new _ _)) (by simp) (Lies.below hM2.out (by repeat (first | (with_reducible exact Below.refl _ _) | (with_reducible exact Below.refl _ _) | (with_reducible refine below_al ?_ _) | (with_reducible refine below_dr ?_ _) | (with_reducible refine below_d1 ?_) | ((with_reducible refine Below.setCell ?_ ?_ _); rotate_left; (next => first | (simp; done) | (simp; omega) | omega))))) (by simp [maxLen]; omega) (by omega) ?_
          intro v7 w7 hL7 hF7
          have hnB : ¬(PutP w3.heap.size (wr.heap.size) w3.heap.size ∧ w3.heap.size < (X).heap.size) := fun h => by have := h.1.1; omega
          have t0 := (hF7.cell (b := w3.heap.size) (o := 0) (by first | (simp; done) | (simp; omega)) hnB).trans (by go_simp : _ = some (.slice R (putTo x.Nodes k 0 n k).length d))
          have t4 := (hF7.frozen (b := w3.heap.size) (o := 0) (by first | (simp; done) | (simp; omega)) hnB).trans (((show Below (X).heap.size (X) _ from by repeat (first | (with_reducible exact Below.refl _ _) | (with_reducible exact hb6.out) | (with_reducible refine below_al ?_ _) | (with_reducible refine below_dr ?_ _) | (with_reducible refine below_d1 ?_) | ((with_reducible refine Below.setCell ?_ ?_ _); rotate_left; (next => first | (simp; done) | (simp; omega) | omega)))).frozen (p := ⟨w3.heap.size, 0, none⟩) hsz).trans f0)
          have z7 : w3.heap.size < w7.heap.size := by have := hF7.size; simp at this; omega
          obtain ⟨R7, d7, rfl, _, _⟩ := hL7.slice
          have st := Asd.mk (PutSt.next hbr.out (by repeat (first | (with_reducible exact Below.refl _ _) | (with_reducible exact hb6.out) | (with_reducible refine below_al ?_ _) | (with_reducible refine below_dr ?_ _) | (with_reducible refine below_d1 ?_) | ((with_reducible refine Below.setCell ?_ ?_ _); rotate_left; (next => first | (simp; done) | (simp; omega) | omega)))) hF7 hsz hav b0 f0 hL7)
          have t1 := (hF7.cell (b := w.heap.size + 1) (o := 0) (by first | (simp; done) | (simp; omega)) hNB).trans (by go_simp : _ = some (.string n.Name))
          have t2 := (hF7.cell (b := w.heap.size + 1) (o := 1) (by first | (simp; done) | (simp; omega)) hNB).trans (by go_simp : _ = some (.int .i64 n.Action.Cost))
          have t3 := (hF7.cell (b := w.heap.size + 1) (o := 2) (by first | (simp; done) | (simp; omega)) hNB).trans (by go_simp : _ = some (.slice An n.Action.Steps.length cn))
          have far := Asd.mk (fun (b o : Nat) (h1 : b < (X).heap.size) (h2 : b ≠ w3.heap.size) (h3 : ¬(PutP w3.heap.size (wr.heap.size) b ∧ b < (X).heap.size)) => show (w7.setCell ⟨w3.heap.size, 0, none⟩ (.slice R7 (putTo x.Nodes k 0 n k).length.succ d7)).cell? ⟨b, o, none⟩ = (X).cell? ⟨b, o, none⟩ from by
            rw [World.cell?_setCell_far _ _ _ _ (by simp; omega), hF7.cell (by simp; omega) h3]; exact (show Below (X).heap.size (X) _ from by repeat (first | (with_reducible exact Below.refl _ _) | (with_reducible exact hb6.out) | (with_reducible refine below_al ?_ _) | (with_reducible refine below_dr ?_ _) | (with_reducible refine below_d1 ?_) | ((with_reducible refine Below.setCell ?_ ?_ _); rotate_left; (next => first | (simp; done) | (simp; omega) | omega)))).cell (p := ⟨b, o, none⟩) h1)
          have z8 : (X).heap.size ≤ w7.heap.size := by have := hF7.size; simp at this; omega
          clear hL7 hF7
          refine hK.out _ _ (fun _ => ⟨t0, t1, t2, t3⟩) ?_
          clear hK K
          (try simp only [Act.put, List.setIfInBounds_toArray, List.set_cons_zero, List.set_cons_succ])
          have hH : w7.cell? ⟨w3.heap.size, 0, none⟩ = some (.slice R (putTo x.Nodes k 0 n k).length d) ∧ w7.cell? ⟨w.heap.size + 1, 0, none⟩ = some (.string n.Name) ∧ w7.cell? ⟨w.heap.size + 1, 1, none⟩ = some (.int .i64 n.Action.Cost) ∧ w7.cell? ⟨w.heap.size + 1, 2, none⟩ = some (.slice An n.Action.Steps.length cn) := ⟨t0, t1, t2, t3⟩
          ((refine wpG_take (i := 6) (v := ?_) rfl rfl (by kernel_rfl) (by kernel_rfl) (by kernel_rfl) (by kernel_rfl) (fun _ _ _ h => h) (Or.inl ⟨by rfl, ?_⟩) (by assumption) ?_; rotate_left; (next => ((intro X hX; (try dsimp only at hX); go_simp); try with_reducible rfl))); (try simp only [Act.put, List.setIfInBounds_toArray, List.set_cons_zero, List.set_cons_succ]))
          (refine wpG_one (i := 7) (by kernel_rfl) rfl (fun K hK => ?_))
          go_simp
          refine hK.out _ _ (fun h => absurd rfl h) ?_
          clear hK K hH
          refine wpG_done (by kernel_rfl) ?_ _
          go_wp2
          obtain ⟨L2, hL2⟩ : ∃ L2, putTo x.Nodes k 0 n k ++ [n] = L2 := ⟨_, rfl⟩
          obtain ⟨X2, hX2⟩ : ∃ Z : World, Z = w7.setCell ⟨w3.heap.size, 0, none⟩ (.slice R7 ((putTo x.Nodes k 0 n k).length + 1) d7) := ⟨_, rfl⟩
          rw [← hX2]
          rw [← hX2, hL2] at st
          have hlen2 : L2.length ≤ k + 2 := by rw [← hL2]; simp; omega
          have m0' : X2.cell? ⟨wr.heap.size, 0, none⟩ = some (.string x.Nodes[k].Name) := by rw [hX2]; exact (far.out _ _ hav (by omega) (fun h => h.1.2 rfl)).trans x0
          have m1' : X2.cell? ⟨wr.heap.size, 1, none⟩ = some (.int .i64 x.Nodes[k].Action.Cost) := by rw [hX2]; exact (far.out _ _ hav (by omega) (fun h => h.1.2 rfl)).trans x1
          have m2' : X2.cell? ⟨wr.heap.size, 2, none⟩ = some (.slice B2 x.Nodes[k].Action.Steps.length d2) := by rw [hX2]; exact (far.out _ _ hav (by omega) (fun h => h.1.2 rfl)).trans x2
          have hav2 : wr.heap.size < X2.heap.size := by rw [hX2]; simp; omega
          have e3 := Asd.mk (show putTo x.Nodes k 0 n (k + 1) = L2 ++ [x.Nodes[k]] by rw [e2.out, hL2])
          clear hX2 hL2 m0 m1 m2 g0 g1 g2 g3 t0 t1 t2 t3 t4 b0 f0 far hnB hNB hb6 hM2 hsz5 hB5 hN5 hL hbr z7 z8 hsz e2 x0 x1 x2 p1 p2 p3 hnX hav hbX h2
          replace st := st.out
          have h2 := Asd.mk (h23.out.below (st.choose_spec.choose_spec.2.2.2.1))
          have m0 := m0'
          have m1 := m1'
          have m2 := m2'
          have hav := hav2
          clear m0' m1' m2' hav2
          have hNB : ¬(PutP w3.heap.size wr.heap.size wr.heap.size ∧ wr.heap.size < X2.heap.size) := fun h => h.1.2 rfl
          obtain ⟨R, d, b0, f0, hL, hbr, hsz⟩ := st
          replace hL := Asd.mk hL
          replace hbr := Asd.mk hbr
          refine wp_region_G (last := 7) (S := fun Z => Z.cell? ⟨w3.heap.size, 0, none⟩ = some (.slice R (L2).length d) ∧ Z.cell? ⟨wr.heap.size, 0, none⟩ = some (.string x.Nodes[k].Name) ∧ Z.cell? ⟨wr.heap.size, 1, none⟩ = some (.int .i64 x.Nodes[k].Action.Cost) ∧ Z.cell? ⟨wr.heap.size, 2, none⟩ = some (.slice B2 x.Nodes[k].Action.Steps.length d2)) (by kernel_rfl) ?_
          have hH : (X2).drew.cell? ⟨w3.heap.size, 0, none⟩ = some (.slice R (L2).length d) ∧ (X2).drew.cell? ⟨wr.heap.size, 0, none⟩ = some (.string x.Nodes[k].Name) ∧ (X2).drew.cell? ⟨wr.heap.size, 1, none⟩ = some (.int .i64 x.Nodes[k].Action.Cost) ∧ (X2).drew.cell? ⟨wr.heap.size, 2, none⟩ = some (.slice B2 x.Nodes[k].Action.Steps.length d2) := ⟨b0, m0, m1, m2⟩
          ((refine wpG_take (i := 0) (v := ?_) rfl rfl (by kernel_rfl) (by kernel_rfl) (by kernel_rfl) (by kernel_rfl) (fun _ _ _ h => h) (Or.inl ⟨by rfl, ?_⟩) (by assumption) ?_; rotate_left; (next => ((intro X hX; (try dsimp only at hX); go_simp); try with_reducible rfl))); (try simp only [Act.put, List.setIfInBounds_toArray, List.set_cons_zero, List.set_cons_succ]); (refine wpG_take (i := 1) (v := ?_) rfl rfl (by kernel_rfl) (by kernel_rfl) (by kernel_rfl) (by kernel_rfl) (fun _ _ _ h => h) (Or.inl ⟨by rfl, ?_⟩) (by assumption) ?_; rotate_left; (next => ((intro X hX; (try dsimp only at hX); go_simp); try with_reducible rfl))); (try simp only [Act.put, List.setIfInBounds_toArray, List.set_cons_zero, List.set_cons_succ]); (refine wpG_take (i := 2) (v := ?_) rfl rfl (by kernel_rfl) (by kernel_rfl) (by kernel_rfl) (by kernel_rfl) (fun _ _ _ h => h) (Or.inl ⟨by rfl, ?_⟩) (by assumption) ?_; rotate_left; (next => ((intro X hX; (try dsimp only at hX); go_simp); try with_reducible rfl))); (try simp only [Act.put, List.setIfInBounds_toArray, List.set_cons_zero, List.set_cons_succ]))
          (refine wpG_one (i := 3) (by kernel_rfl) rfl (fun K hK => ?_))
          go_simp
          go_at_call 40
          refine (copyNode_calls x.Nodes[k] _ (Node.rmk _ (h2.out.below (by repeat (first | (with_reducible exact Below.refl _ _) | (with_reducible exact Below.refl _ _) | (with_reducible refine below_al ?_ _) | (with_reducible refine below_dr ?_ _) | (with_reducible refine below_d1 ?_) | ((with_reducible refine Below.setCell ?_ ?_ _); rotate_left; (next => first | (simp; done) | (simp; omega) | omega)))))) (by omega) hbnd.2).mono ?_
          rintro e w5 ⟨us, rfl, hM, hb5_⟩
          have hM2 := Asd.mk (hM.lies.mono (l := (X2).heap.size) (by simp))
          obtain ⟨F_, o_, n_, l_⟩ := hM
          obtain ⟨v2_, G2_, rfl, p2_, rfl⟩ := Node.oopen o_
          obtain ⟨D2, d3, rfl, _, _⟩ := own_slice p2_
          clear p2_ n_ l_ o_
          have hb6 := Asd.mk (show Below (X2).heap.size (X2) w5 from below_st (by repeat (first | (with_reducible exact Below.refl _ _) | (with_reducible exact Below.refl _ _) | (with_reducible refine below_al ?_ _) | (with_reducible refine below_dr ?_ _) | (with_reducible refine below_d1 ?_) | ((with_reducible refine Below.setCell ?_ ?_ _); rotate_left; (next => first | (simp; done) | (simp; omega) | omega)))) hb5_)
          have g0 := cell_below hb6.out b0
          have g1 := cell_below hb6.out m0
          have g2 := cell_below hb6.out m1
          have g3 := cell_below hb6.out m2
          have hsz5 : (X2).heap.size ≤ w5.heap.size := hb6.out.size
          have hB5 : w3.heap.size < w5.heap.size := by omega
          have hN5 : wr.heap.size < w5.heap.size := by omega
          clear hb5_ hH
          refine hK.out _ _ (fun _ => ⟨g0, g1, g2, g3⟩) ?_
          clear hK K
          (try simp only [Act.put, List.setIfInBounds_toArray, List.set_cons_zero, List.set_cons_succ])
          have hH : w5.cell? ⟨w3.heap.size, 0, none⟩ = some (.slice R (L2).length d) ∧ w5.cell? ⟨wr.heap.size, 0, none⟩ = some (.string x.Nodes[k].Name) ∧ w5.cell? ⟨wr.heap.size, 1, none⟩ = some (.int .i64 x.Nodes[k].Action.Cost) ∧ w5.cell? ⟨wr.heap.size, 2, none⟩ = some (.slice B2 x.Nodes[k].Action.Steps.length d2) := ⟨g0, g1, g2, g3⟩
          (refine wpG_one (i := 4) (by kernel_rfl) rfl (fun K hK => ?_))
          go_simp
          refine hK.out _ _ (fun _ => ⟨by go_simp, by go_simp, by go_simp, by go_simp⟩) ?_
          clear hK K hH
          (try simp only [Act.put, List.setIfInBounds_toArray, List.set_cons_zero, List.set_cons_succ])
          (refine wpG_one (i := 5) (by kernel_rfl) rfl (fun K hK => ?_))
          refine step_appP (by rfl) (by rfl) Try.underlying26 info_Node rfl (by decide) (by rfl) (wr := X2) (m0 := (X2).heap.size) hL.out (by repeat (first | (with_reducible exact Below.refl _ _) | (with_reducible exact hb6.out) | (with_reducible refine below_al ?_ _) | (with_reducible refine below_dr ?_ _) | (with_reducible refine below_d1 ?_) | ((with_reducible refine Below.setCell ?_ ?_ _); rotate_left; (next => first | (simp; done) | (simp; omega) | omega)))) (Nat.le_refl _) (by rfl) (World.news_of_block (heap_alloc_new _ _)) (by simp) (Lies.below hM2.out (by repeat (first | (with_reducible exact Below.refl _ _) | (with_reducible exact Below.refl _ _) | (with_reducible refine below_al ?_ _) | (with_reducible refine below_dr ?_ _) | (with_reducible refine below_d1 ?_) | ((with_reducible refine Below.setCell ?_ ?_ _); rotate_left; (next => first | (simp; done) | (simp; omega) | omega))))) (by simp [maxLen]; omega) (by omega) ?_
          intro v7 w7 hL7 hF7
          have hnB : ¬(PutP w3.heap.size (wr.heap.size) w3.heap.size ∧ w3.heap.size < (X2).heap.size) := fun h => by have := h.1.1; omega
          have t0 := (hF7.cell (b := w3.heap.size) (o := 0) (by first | (simp; done) | (simp; omega)) hnB).trans (by go_simp : _ = some (.slice R (L2).length d))
          have t4 := (hF7.frozen (b := w3.heap.size) (o := 0) (by first | (simp; done) | (simp; omega)) hnB).trans (((show Below (X2).heap.size (X2) _ from by repeat (first | (with_reducible exact Below.refl _ _) | (with_reducible exact hb6.out) | (with_reducible refine below_al ?_ _) | (with_reducible refine below_dr ?_ _) | (with_reducible refine below_d1 ?_) | ((with_reducible refine Below.setCell ?_ ?_ _); rotate_left; (next => first | (simp; done) | (simp; omega) | omega)))).frozen (p := ⟨w3.heap.size, 0, none⟩) hsz).trans f0)
          have z7 : w3.heap.size < w7.heap.size := by have := hF7.size; simp at this; omega
          obtain ⟨R7, d7, rfl, _, _⟩ := hL7.slice
          have st := Asd.mk (PutSt.next hbr.out (by repeat (first | (with_reducible exact Below.refl _ _) | (with_reducible exact hb6.out) | (with_reducible refine below_al ?_ _) | (with_reducible refine below_dr ?_ _) | (with_reducible refine below_d1 ?_) | ((with_reducible refine Below.setCell ?_ ?_ _); rotate_left; (next => first | (simp; done) | (simp; omega) | omega)))) hF7 hsz hav b0 f0 hL7)
          have t1 := (hF7.cell (b := wr.heap.size) (o := 0) (by first | (simp; done) | (simp; omega)) hNB).trans (by go_simp : _ = some (.string x.Nodes[k].Name))
          have t2 := (hF7.cell (b := wr.heap.size) (o := 1) (by first | (simp; done) | (simp; omega)) hNB).trans (by go_simp : _ = some (.int .i64 x.Nodes[k].Action.Cost))
          have t3 := (hF7.cell (b := wr.heap.size) (o := 2) (by first | (simp; done) | (simp; omega)) hNB).trans (by go_simp : _ = some (.slice B2 x.Nodes[k].Action.Steps.length d2))
          have far := Asd.mk (fun (b o : Nat) (h1 : b < (X2).heap.size) (h2 : b ≠ w3.heap.size) (h3 : ¬(PutP w3.heap.size (wr.heap.size) b ∧ b < (X2).heap.size)) => show (w7.setCell ⟨w3.heap.size, 0, none⟩ (.slice R7 (L2).length.succ d7)).cell? ⟨b, o, none⟩ = (X2).cell? ⟨b, o, none⟩ from by
            rw [World.cell?_setCell_far _ _ _ _ (by simp; omega), hF7.cell (by simp; omega) h3]; exact (show Below (X2).heap.size (X2) _ from by repeat (first | (with_reducible exact Below.refl _ _) | (with_reducible exact hb6.out) | (with_reducible refine below_al ?_ _) | (with_reducible refine below_dr ?_ _) | (with_reducible refine below_d1 ?_) | ((with_reducible refine Below.setCell ?_ ?_ _); rotate_left; (next => first | (simp; done) | (simp; omega) | omega)))).cell (p := ⟨b, o, none⟩) h1)
          have z8 : (X2).heap.size ≤ w7.heap.size := by have := hF7.size; simp at this; omega
          clear hL7 hF7
          refine hK.out _ _ (fun _ => ⟨t0, t1, t2, t3⟩) ?_
          clear hK K
          (try simp only [Act.put, List.setIfInBounds_toArray, List.set_cons_zero, List.set_cons_succ])
          have hH : w7.cell? ⟨w3.heap.size, 0, none⟩ = some (.slice R (L2).length d) ∧ w7.cell? ⟨wr.heap.size, 0, none⟩ = some (.string x.Nodes[k].Name) ∧ w7.cell? ⟨wr.heap.size, 1, none⟩ = some (.int .i64 x.Nodes[k].Action.Cost) ∧ w7.cell? ⟨wr.heap.size, 2, none⟩ = some (.slice B2 x.Nodes[k].Action.Steps.length d2) := ⟨t0, t1, t2, t3⟩
          ((refine wpG_take (i := 6) (v := ?_) rfl rfl (by kernel_rfl) (by kernel_rfl) (by kernel_rfl) (by kernel_rfl) (fun _ _ _ h => h) (Or.inl ⟨by rfl, ?_⟩) (by assumption) ?_; rotate_left; (next => ((intro X hX; (try dsimp only at hX); go_simp); try with_reducible rfl))); (try simp only [Act.put, List.setIfInBounds_toArray, List.set_cons_zero, List.set_cons_succ]))
          (refine wpG_one (i := 7) (by kernel_rfl) rfl (fun K hK => ?_))
          go_simp
          refine hK.out _ _ (fun h => absurd rfl h) ?_
          clear hK K hH
          refine wpG_done (by kernel_rfl) ?_ _
          go_wp2
          go_roundw
          case rel => exact ⟨k + 1, by omega, by go_num, by rw [e3.out]; exact st.out.fresh⟩
          case measure => simp [intOf]; omega
        · have e2 := Asd.mk (putTo_gt (t := 0) (n := n) hlt hka (by omega))
          have hne : ¬k = a := by omega
          go_wp2
          obtain ⟨X, hX⟩ : ∃ X : World, X = wr.alloc (.cells #[.string x.Nodes[k].Name, .int .i64 x.Nodes[k].Action.Cost, .slice B2 x.Nodes[k].Action.Steps.length d2] 46) := ⟨_, rfl⟩
          rw [← hX]
          rw [← hX] at hbX
          have zX : X.heap.size = wr.heap.size + 1 := by rw [hX]; simp
          have hav : wr.heap.size < X.heap.size := by omega
          replace st := st.below hbX.out
          have x0 : X.cell? ⟨wr.heap.size, 0, none⟩ = some (.string x.Nodes[k].Name) := by rw [hX]; go_simp
          have x1 : X.cell? ⟨wr.heap.size, 1, none⟩ = some (.int .i64 x.Nodes[k].Action.Cost) := by rw [hX]; go_simp
          have x2 : X.cell? ⟨wr.heap.size, 2, none⟩ = some (.slice B2 x.Nodes[k].Action.Steps.length d2) := by rw [hX]; go_simp
          replace p1 := cell_below hbX.out p1
          replace p2 := cell_below hbX.out p2
          replace p3 := cell_below hbX.out p3
          have h2 := Asd.mk (h23.out.below (below_st hbw.out hbX.out))
          have hnX := Asd.mk (hn.out.below (below_st (below_st HW.out hbw.out) hbX.out))
          replace zX : X.heap.size ≤ wr.heap.size + 1 := by omega
          clear hX k0 k1 k2
          have m0 := x0
          have m1 := x1
          have m2 := x2
          have hNB : ¬(PutP w3.heap.size wr.heap.size wr.heap.size ∧ wr.heap.size < X.heap.size) := fun h => h.1.2 rfl
          obtain ⟨R, d, b0, f0, hL, hbr, hsz⟩ := st
          replace hL := Asd.mk hL
          replace hbr := Asd.mk hbr
          refine wp_region_G (last := 7) (S := fun Z => Z.cell? ⟨w3.heap.size, 0, none⟩ = some (.slice R (putTo x.Nodes a 0 n k).length d) ∧ Z.cell? ⟨wr.heap.size, 0, none⟩ = some (.string x.Nodes[k].Name) ∧ Z.cell? ⟨wr.heap.size, 1, none⟩ = some (.int .i64 x.Nodes[k].Action.Cost) ∧ Z.cell? ⟨wr.heap.size, 2, none⟩ = some (.slice B2 x.Nodes[k].Action.Steps.length d2)) (by kernel_rfl) ?_
          have hH : (X).drew.cell? ⟨w3.heap.size, 0, none⟩ = some (.slice R (putTo x.Nodes a 0 n k).length d) ∧ (X).drew.cell? ⟨wr.heap.size, 0, none⟩ = some (.string x.Nodes[k].Name) ∧ (X).drew.cell? ⟨wr.heap.size, 1, none⟩ = some (.int .i64 x.Nodes[k].Action.Cost) ∧ (X).drew.cell? ⟨wr.heap.size, 2, none⟩ = some (.slice B2 x.Nodes[k].Action.Steps.length d2) := ⟨b0, m0, m1, m2⟩
          ((refine wpG_take (i := 0) (v := ?_) rfl rfl (by kernel_rfl) (by kernel_rfl) (by kernel_rfl) (by kernel_rfl) (fun _ _ _ h => h) (Or.inl ⟨by rfl, ?_⟩) (by assumption) ?_; rotate_left; (next => ((intro X hX; (try dsimp only at hX); go_simp); try with_reducible rfl))); (try simp only [Act.put, List.setIfInBounds_toArray, List.set_cons_zero, List.set_cons_succ]); (refine wpG_take (i := 1) (v := ?_) rfl rfl (by kernel_rfl) (by kernel_rfl) (by kernel_rfl) (by kernel_rfl) (fun _ _ _ h => h) (Or.inl ⟨by rfl, ?_⟩) (by assumption) ?_; rotate_left; (next => ((intro X hX; (try dsimp only at hX); go_simp); try with_reducible rfl))); (try simp only [Act.put, List.setIfInBounds_toArray, List.set_cons_zero, List.set_cons_succ]); (refine wpG_take (i := 2) (v := ?_) rfl rfl (by kernel_rfl) (by kernel_rfl) (by kernel_rfl) (by kernel_rfl) (fun _ _ _ h => h) (Or.inl ⟨by rfl, ?_⟩) (by assumption) ?_; rotate_left; (next => ((intro X hX; (try dsimp only at hX); go_simp); try with_reducible rfl))); (try simp only [Act.put, List.setIfInBounds_toArray, List.set_cons_zero, List.set_cons_succ]))
          (refine wpG_one (i := 3) (by kernel_rfl) rfl (fun K hK => ?_))
          go_simp
          go_at_call 40
          refine (copyNode_calls x.Nodes[k] _ (Node.rmk _ (h2.out.below (by repeat (first | (with_reducible exact Below.refl _ _) | (with_reducible exact Below.refl _ _) | (with_reducible refine below_al ?_ _) | (with_reducible refine below_dr ?_ _) | (with_reducible refine below_d1 ?_) | ((with_reducible refine Below.setCell ?_ ?_ _); rotate_left; (next => first | (simp; done) | (simp; omega) | omega)))))) (by omega) hbnd.2).mono ?_
          rintro e w5 ⟨us, rfl, hM, hb5_⟩
          have hM2 := Asd.mk (hM.lies.mono (l := (X).heap.size) (by simp))
          obtain ⟨F_, o_, n_, l_⟩ := hM
          obtain ⟨v2_, G2_, rfl, p2_, rfl⟩ := Node.oopen o_
          obtain ⟨D2, d3, rfl, _, _⟩ := own_slice p2_
          clear p2_ n_ l_ o_
          have hb6 := Asd.mk (show Below (X).heap.size (X) w5 from below_st (by repeat (first | (with_reducible exact Below.refl _ _) | (with_reducible exact Below.refl _ _) | (with_reducible refine below_al ?_ _) | (with_reducible refine below_dr ?_ _) | (with_reducible refine below_d1 ?_) | ((with_reducible refine Below.setCell ?_ ?_ _); rotate_left; (next => first | (simp; done) | (simp; omega) | omega)))) hb5_)
          have g0 := cell_below hb6.out b0
          have g1 := cell_below hb6.out m0
          have g2 := cell_below hb6.out m1
          have g3 := cell_below hb6.out m2
          have hsz5 : (X).heap.size ≤ w5.heap.size := hb6.out.size
          have hB5 : w3.heap.size < w5.heap.size := by omega
          have hN5 : wr.heap.size < w5.heap.size := by omega
          clear hb5_ hH
          refine hK.out _ _ (fun _ => ⟨g0, g1, g2, g3⟩) ?_
          clear hK K
          (try simp only [Act.put, List.setIfInBounds_toArray, List.set_cons_zero, List.set_cons_succ])
          have hH : w5.cell? ⟨w3.heap.size, 0, none⟩ = some (.slice R (putTo x.Nodes a 0 n k).length d) ∧ w5.cell? ⟨wr.heap.size, 0, none⟩ = some (.string x.Nodes[k].Name) ∧ w5.cell? ⟨wr.heap.size, 1, none⟩ = some (.int .i64 x.Nodes[k].Action.Cost) ∧ w5.cell? ⟨wr.heap.size, 2, none⟩ = some (.slice B2 x.Nodes[k].Action.Steps.length d2) := ⟨g0, g1, g2, g3⟩
          (refine wpG_one (i := 4) (by kernel_rfl) rfl (fun K hK => ?_))
          go_simp
          refine hK.out _ _ (fun _ => ⟨by go_simp, by go_simp, by go_simp, by go_simp⟩) ?_
          clear hK K hH
          (try simp only [Act.put, List.setIfInBounds_toArray, List.set_cons_zero, List.set_cons_succ])
          (refine wpG_one (i := 5) (by kernel_rfl) rfl (fun K hK => ?_))
          refine step_appP (by rfl) (by rfl) Try.underlying26 info_Node rfl (by decide) (by rfl) (wr := X) (m0 := (X).heap.size) hL.out (by repeat (first | (with_reducible exact Below.refl _ _) | (with_reducible exact hb6.out) | (with_reducible refine below_al ?_ _) | (with_reducible refine below_dr ?_ _) | (with_reducible refine below_d1 ?_) | ((with_reducible refine Below.setCell ?_ ?_ _); rotate_left; (next => first | (simp; done) | (simp; omega) | omega)))) (Nat.le_refl _) (by rfl) (World.news_of_block (heap_alloc_new _ _)) (by simp) (Lies.below hM2.out (by repeat (first | (with_reducible exact Below.refl _ _) | (with_reducible exact Below.refl _ _) | (with_reducible refine below_al ?_ _) | (with_reducible refine below_dr ?_ _) | (with_reducible refine below_d1 ?_) | ((with_reducible refine Below.setCell ?_ ?_ _); rotate_left; (next => first | (simp; done) | (simp; omega) | omega))))) (by simp [maxLen]; omega) (by omega) ?_
          intro v7 w7 hL7 hF7
          have hnB : ¬(PutP w3.heap.size (wr.heap.size) w3.heap.size ∧ w3.heap.size < (X).heap.size) := fun h => by have := h.1.1; omega
          have t0 := (hF7.cell (b := w3.heap.size) (o := 0) (by first | (simp; done) | (simp; omega)) hnB).trans (by go_simp : _ = some (.slice R (putTo x.Nodes a 0 n k).length d))
          have t4 := (hF7.frozen (b := w3.heap.size) (o := 0) (by first | (simp; done) | (simp; omega)) hnB).trans (((show Below (X).heap.size (X) _ from by repeat (first | (with_reducible exact Below.refl _ _) | (with_reducible exact hb6.out) | (with_reducible refine below_al ?_ _) | (with_reducible refine below_dr ?_ _) | (with_reducible refine below_d1 ?_) | ((with_reducible refine Below.setCell ?_ ?_ _); rotate_left; (next => first | (simp; done) | (simp; omega) | omega)))).frozen (p := ⟨w3.heap.size, 0, none⟩) hsz).trans f0)
          have z7 : w3.heap.size < w7.heap.size := by have := hF7.size; simp at this; omega
          obtain ⟨R7, d7, rfl, _, _⟩ := hL7.slice
          have st := Asd.mk (PutSt.next hbr.out (by repeat (first | (with_reducible exact Below.refl _ _) | (with_reducible exact hb6.out) | (with_reducible refine below_al ?_ _) | (with_reducible refine below_dr ?_ _) | (with_reducible refine below_d1 ?_) | ((with_reducible refine Below.setCell ?_ ?_ _); rotate_left; (next => first | (simp; done) | (simp; omega) | omega)))) hF7 hsz hav b0 f0 hL7)
          have t1 := (hF7.cell (b := wr.heap.size) (o := 0) (by first | (simp; done) | (simp; omega)) hNB).trans (by go_simp : _ = some (.string x.Nodes[k].Name))
          have t2 := (hF7.cell (b := wr.heap.size) (o := 1) (by first | (simp; done) | (simp; omega)) hNB).trans (by go_simp : _ = some (.int .i64 x.Nodes[k].Action.Cost))
          have t3 := (hF7.cell (b := wr.heap.size) (o := 2) (by first | (simp; done) | (simp; omega)) hNB).trans (by go_simp : _ = some (.slice B2 x.Nodes[k].Action.Steps.length d2))
          have far := Asd.mk (fun (b o : Nat) (h1 : b < (X).heap.size) (h2 : b ≠ w3.heap.size) (h3 : ¬(PutP w3.heap.size (wr.heap.size) b ∧ b < (X).heap.size)) => show (w7.setCell ⟨w3.heap.size, 0, none⟩ (.slice R7 (putTo x.Nodes a 0 n k).length.succ d7)).cell? ⟨b, o, none⟩ = (X).cell? ⟨b, o, none⟩ from by
            rw [World.cell?_setCell_far _ _ _ _ (by simp; omega), hF7.cell (by simp; omega) h3]; exact (show Below (X).heap.size (X) _ from by repeat (first | (with_reducible exact Below.refl _ _) | (with_reducible exact hb6.out) | (with_reducible refine below_al ?_ _) | (with_reducible refine below_dr ?_ _) | (with_reducible refine below_d1 ?_) | ((with_reducible refine Below.setCell ?_ ?_ _); rotate_left; (next => first | (simp; done) | (simp; omega) | omega)))).cell (p := ⟨b, o, none⟩) h1)
          have z8 : (X).heap.size ≤ w7.heap.size := by have := hF7.size; simp at this; omega
          clear hL7 hF7
          refine hK.out _ _ (fun _ => ⟨t0, t1, t2, t3⟩) ?_
          clear hK K
          (try simp only [Act.put, List.setIfInBounds_toArray, List.set_cons_zero, List.set_cons_succ])
          have hH : w7.cell? ⟨w3.heap.size, 0, none⟩ = some (.slice R (putTo x.Nodes a 0 n k).length d) ∧ w7.cell? ⟨wr.heap.size, 0, none⟩ = some (.string x.Nodes[k].Name) ∧ w7.cell? ⟨wr.heap.size, 1, none⟩ = some (.int .i64 x.Nodes[k].Action.Cost) ∧ w7.cell? ⟨wr.heap.size, 2, none⟩ = some (.slice B2 x.Nodes[k].Action.Steps.length d2) := ⟨t0, t1, t2, t3⟩
          ((refine wpG_take (i := 6) (v := ?_) rfl rfl (by kernel_rfl) (by kernel_rfl) (by kernel_rfl) (by kernel_rfl) (fun _ _ _ h => h) (Or.inl ⟨by rfl, ?_⟩) (by assumption) ?_; rotate_left; (next => ((intro X hX; (try dsimp only at hX); go_simp); try with_reducible rfl))); (try simp only [Act.put, List.setIfInBounds_toArray, List.set_cons_zero, List.set_cons_succ]))
          (refine wpG_one (i := 7) (by kernel_rfl) rfl (fun K hK => ?_))
          go_simp
          refine hK.out _ _ (fun h => absurd rfl h) ?_
          clear hK K hH
          refine wpG_done (by kernel_rfl) ?_ _
          go_wp2
          go_roundw
          case rel => exact ⟨k + 1, by omega, by go_num, by rw [e2.out]; exact st.out.fresh⟩
          case measure => simp [intOf]; omega
      · obtain rfl : k = x.Nodes.length := by omega
        by_cases hae : a = x.Nodes.length
        · subst hae
          have e2 := Asd.mk (putTo_end2 (xs := x.Nodes) (t := 0) (n := n))
          have p0 := cell_below hbw.out b0
          have m0 := cell_below hbw.out b1
          have m1 := cell_below hbw.out b2
          have m2 := cell_below hbw.out b3
          have s0 : w.heap.size < wr.heap.size := by omega
          have s1 : w.heap.size + 1 < wr.heap.size := by omega
          go_wp2
          replace st := st.av0
          have hbn1 := hbn.out.1
          have hnX := Asd.mk (hn.out.below (below_st HW.out hbw.out))
          have hav : 0 < wr.heap.size := by omega
          have hNB : ¬(PutP w3.heap.size 0 (w.heap.size + 1) ∧ w.heap.size + 1 < wr.heap.size) := fun h => by have := h.1.1; omega
          obtain ⟨R, d, b0, f0, hL, hbr, hsz⟩ := st
          replace hL := Asd.mk hL
          replace hbr := Asd.mk hbr
          refine wp_region_G (last := 7) (S := fun Z => Z.cell? ⟨w3.heap.size, 0, none⟩ = some (.slice R (putTo x.Nodes x.Nodes.length 0 n x.Nodes.length).length d) ∧ Z.cell? ⟨w.heap.size + 1, 0, none⟩ = some (.string n.Name) ∧ Z.cell? ⟨w.heap.size + 1, 1, none⟩ = some (.int .i64 n.Action.Cost) ∧ Z.cell? ⟨w.heap.size + 1, 2, none⟩ = some (.slice An n.Action.Steps.length cn)) (by kernel_rfl) ?_
          have hH : (wr).drew.cell? ⟨w3.heap.size, 0, none⟩ = some (.slice R (putTo x.Nodes x.Nodes.length 0 n x.Nodes.length).length d) ∧ (wr).drew.cell? ⟨w.heap.size + 1, 0, none⟩ = some (.string n.Name) ∧ (wr).drew.cell? ⟨w.heap.size + 1, 1, none⟩ = some (.int .i64 n.Action.Cost) ∧ (wr).drew.cell? ⟨w.heap.size + 1, 2, none⟩ = some (.slice An n.Action.Steps.length cn) := ⟨b0, m0, m1, m2⟩
          ((refine wpG_take (i := 0) (v := ?_) rfl rfl (by kernel_rfl) (by kernel_rfl) (by kernel_rfl) (by kernel_rfl) (fun _ _ _ h => h) (Or.inl ⟨by rfl, ?_⟩) (by assumption) ?_; rotate_left; (next => ((intro X hX; (try dsimp only at hX); go_simp); try with_reducible rfl))); (try simp only [Act.put, List.setIfInBounds_toArray, List.set_cons_zero, List.set_cons_succ]); (refine wpG_take (i := 1) (v := ?_) rfl rfl (by kernel_rfl) (by kernel_rfl) (by kernel_rfl) (by kernel_rfl) (fun _ _ _ h => h) (Or.inl ⟨by rfl, ?_⟩) (by assumption) ?_; rotate_left; (next => ((intro X hX; (try dsimp only at hX); go_simp); try with_reducible rfl))); (try simp only [Act.put, List.setIfInBounds_toArray, List.set_cons_zero, List.set_cons_succ]); (refine wpG_take (i := 2) (v := ?_) rfl rfl (by kernel_rfl) (by kernel_rfl) (by kernel_rfl) (by kernel_rfl) (fun _ _ _ h => h) (Or.inl ⟨by rfl, ?_⟩) (by assumption) ?_; rotate_left; (next => ((intro X hX; (try dsimp only at hX); go_simp); try with_reducible rfl))); (try simp only [Act.put, List.setIfInBounds_toArray, List.set_cons_zero, List.set_cons_succ]))
          (refine wpG_one (i := 3) (by kernel_rfl) rfl (fun K hK => ?_))
          go_simp
          go_at_call 40
          refine (copyNode_calls n _ (Node.rmk _ (hnX.out.below (by repeat (first | (with_reducible exact Below.refl _ _) | (with_reducible exact Below.refl _ _) | (with_reducible refine below_al ?_ _) | (with_reducible refine below_dr ?_ _) | (with_reducible refine below_d1 ?_) | ((with_reducible refine Below.setCell ?_ ?_ _); rotate_left; (next => first | (simp; done) | (simp; omega) | omega)))))) (by omega) hbn.out.2).mono ?_
          rintro e w5 ⟨us, rfl, hM, hb5_⟩
          have hM2 := Asd.mk (hM.lies.mono (l := (wr).heap.size) (by simp))
          obtain ⟨F_, o_, n_, l_⟩ := hM
          obtain ⟨v2_, G2_, rfl, p2_, rfl⟩ := Node.oopen o_
          obtain ⟨D2, d3, rfl, _, _⟩ := own_slice p2_
          clear p2_ n_ l_ o_
          have hb6 := Asd.mk (show Below (wr).heap.size (wr) w5 from below_st (by repeat (first | (with_reducible exact Below.refl _ _) | (with_reducible exact Below.refl _ _) | (with_reducible refine below_al ?_ _) | (with_reducible refine below_dr ?_ _) | (with_reducible refine below_d1 ?_) | ((with_reducible refine Below.setCell ?_ ?_ _); rotate_left; (next => first | (simp; done) | (simp; omega) | omega)))) hb5_)
          have g0 := cell_below hb6.out b0
          have g1 := cell_below hb6.out m0
          have g2 := cell_below hb6.out m1
          have g3 := cell_below hb6.out m2
          have hsz5 : (wr).heap.size ≤ w5.heap.size := hb6.out.size
          have hB5 : w3.heap.size < w5.heap.size := by omega
          have hN5 : w.heap.size + 1 < w5.heap.size := by omega
          clear hb5_ hH
          refine hK.out _ _ (fun _ => ⟨g0, g1, g2, g3⟩) ?_
          clear hK K
          (try simp only [Act.put, List.setIfInBounds_toArray, List.set_cons_zero, List.set_cons_succ])
          have hH : w5.cell? ⟨w3.heap.size, 0, none⟩ = some (.slice R (putTo x.Nodes x.Nodes.length 0 n x.Nodes.length).length d) ∧ w5.cell? ⟨w.heap.size + 1, 0, none⟩ = some (.string n.Name) ∧ w5.cell? ⟨w.heap.size + 1, 1, none⟩ = some (.int .i64 n.Action.Cost) ∧ w5.cell? ⟨w.heap.size + 1, 2, none⟩ = some (.slice An n.Action.Steps.length cn) := ⟨g0, g1, g2, g3⟩
          (refine wpG_one (i := 4) (by kernel_rfl) rfl (fun K hK => ?_))
          go_simp
          refine hK.out _ _ (fun _ => ⟨by go_simp, by go_simp, by go_simp, by go_simp⟩) ?_
          clear hK K hH
          (try simp only [Act.put, List.setIfInBounds_toArray, List.set_cons_zero, List.set_cons_succ])
          (refine wpG_one (i := 5) (by kernel_rfl) rfl (fun K hK => ?_))
          refine step_appP (by rfl) (by rfl) Try.underlying26 info_Node rfl (by decide) (by rfl) (wr := wr) (m0 := (wr).heap.size) hL.out (by repeat (first | (with_reducible exact Below.refl _ _) | (with_reducible exact hb6.out) | (with_reducible refine below_al ?_ _) | (with_reducible refine below_dr ?_ _) | (with_reducible refine below_d1 ?_) | ((with_reducible refine Below.setCell ?_ ?_ _); rotate_left; (next => first | (simp; done) | (simp; omega) | omega)))) (Nat.le_refl _) (by rfl) (World.news_of_block (heap_alloc_new _ _)) (by simp) (Lies.below hM2.out (by repeat (first | (with_reducible exact Below.refl _ _) | (with_reducible exact Below.refl _ _) | (with_reducible refine below_al ?_ _) | (with_reducible refine below_dr ?_ _) | (with_reducible refine below_d1 ?_) | ((with_reducible refine Below.setCell ?_ ?_ _); rotate_left; (next => first | (simp; done) | (simp; omega) | omega))))) (by simp [maxLen]; omega) (by omega) ?_
          intro v7 w7 hL7 hF7
          have hnB : ¬(PutP w3.heap.size (0) w3.heap.size ∧ w3.heap.size < (wr).heap.size) := fun h => by have := h.1.1; omega
          have t0 := (hF7.cell (b := w3.heap.size) (o := 0) (by first | (simp; done) | (simp; omega)) hnB).trans (by go_simp : _ = some (.slice R (putTo x.Nodes x.Nodes.length 0 n x.Nodes.length).length d))
          have t4 := (hF7.frozen (b := w3.heap.size) (o := 0) (by first | (simp; done) | (simp; omega)) hnB).trans (((show Below (wr).heap.size (wr) _ from by repeat (first | (with_reducible exact Below.refl _ _) | (with_reducible exact hb6.out) | (with_reducible refine below_al ?_ _) | (with_reducible refine below_dr ?_ _) | (with_reducible refine below_d1 ?_) | ((with_reducible refine Below.setCell ?_ ?_ _); rotate_left; (next => first | (simp; done) | (simp; omega) | omega)))).frozen (p := ⟨w3.heap.size, 0, none⟩) hsz).trans f0)
          have z7 : w3.heap.size < w7.heap.size := by have := hF7.size; simp at this; omega
          obtain ⟨R7, d7, rfl, _, _⟩ := hL7.slice
          have st := Asd.mk (PutSt.next hbr.out (by repeat (first | (with_reducible exact Below.refl _ _) | (with_reducible exact hb6.out) | (with_reducible refine below_al ?_ _) | (with_reducible refine below_dr ?_ _) | (with_reducible refine below_d1 ?_) | ((with_reducible refine Below.setCell ?_ ?_ _); rotate_left; (next => first | (simp; done) | (simp; omega) | omega)))) hF7 hsz hav b0 f0 hL7)
          have t1 := (hF7.cell (b := w.heap.size + 1) (o := 0) (by first | (simp; done) | (simp; omega)) hNB).trans (by go_simp : _ = some (.string n.Name))
          have t2 := (hF7.cell (b := w.heap.size + 1) (o := 1) (by first | (simp; done) | (simp; omega)) hNB).trans (by go_simp : _ = some (.int .i64 n.Action.Cost))
          have t3 := (hF7.cell (b := w.heap.size + 1) (o := 2) (by first | (simp; done) | (simp; omega)) hNB).trans (by go_simp : _ = some (.slice An n.Action.Steps.length cn))
          have far := Asd.mk (fun (b o : Nat) (h1 : b < (wr).heap.size) (h2 : b ≠ w3.heap.size) (h3 : ¬(PutP w3.heap.size (0) b ∧ b < (wr).heap.size)) => show (w7.setCell ⟨w3.heap.size, 0, none⟩ (.slice R7 (putTo x.Nodes x.Nodes.length 0 n x.Nodes.length).length.succ d7)).cell? ⟨b, o, none⟩ = (wr).cell? ⟨b, o, none⟩ from by
            rw [World.cell?_setCell_far _ _ _ _ (by simp; omega), hF7.cell (by simp; omega) h3]; exact (show Below (wr).heap.size (wr) _ from by repeat (first | (with_reducible exact Below.refl _ _) | (with_reducible exact hb6.out) | (with_reducible refine below_al ?_ _) | (with_reducible refine below_dr ?_ _) | (with_reducible refine below_d1 ?_) | ((with_reducible refine Below.setCell ?_ ?_ _); rotate_left; (next => first | (simp; done) | (simp; omega) | omega)))).cell (p := ⟨b, o, none⟩) h1)
          have z8 : (wr).heap.size ≤ w7.heap.size := by have := hF7.size; simp at this; omega
          clear hL7 hF7
          refine hK.out _ _ (fun _ => ⟨t0, t1, t2, t3⟩) ?_
          clear hK K
          (try simp only [Act.put, List.setIfInBounds_toArray, List.set_cons_zero, List.set_cons_succ])
          have hH : w7.cell? ⟨w3.heap.size, 0, none⟩ = some (.slice R (putTo x.Nodes x.Nodes.length 0 n x.Nodes.length).length d) ∧ w7.cell? ⟨w.heap.size + 1, 0, none⟩ = some (.string n.Name) ∧ w7.cell? ⟨w.heap.size + 1, 1, none⟩ = some (.int .i64 n.Action.Cost) ∧ w7.cell? ⟨w.heap.size + 1, 2, none⟩ = some (.slice An n.Action.Steps.length cn) := ⟨t0, t1, t2, t3⟩
          ((refine wpG_take (i := 6) (v := ?_) rfl rfl (by kernel_rfl) (by kernel_rfl) (by kernel_rfl) (by kernel_rfl) (fun _ _ _ h => h) (Or.inl ⟨by rfl, ?_⟩) (by assumption) ?_; rotate_left; (next => ((intro X hX; (try dsimp only at hX); go_simp); try with_reducible rfl))); (try simp only [Act.put, List.setIfInBounds_toArray, List.set_cons_zero, List.set_cons_succ]))
          (refine wpG_one (i := 7) (by kernel_rfl) rfl (fun K hK => ?_))
          go_simp
          refine hK.out _ _ (fun h => absurd rfl h) ?_
          clear hK K hH
          refine wpG_done (by kernel_rfl) ?_ _
          obtain ⟨L2, hL2⟩ : ∃ L2, putTo x.Nodes x.Nodes.length 0 n x.Nodes.length ++ [n] = L2 := ⟨_, rfl⟩
          obtain ⟨X2, hX2⟩ : ∃ Z : World, Z = w7.setCell ⟨w3.heap.size, 0, none⟩ (.slice R7 ((putTo x.Nodes x.Nodes.length 0 n x.Nodes.length).length + 1) d7) := ⟨_, rfl⟩
          rw [← hX2]
          rw [← hX2, hL2] at st
          rw [hL2] at e2
          clear hX2 hL2 m0 m1 m2 g0 g1 g2 g3 t0 t1 t2 t3 t4 far hnB hNB hb6 hM2 hsz5 hB5 hN5 z7 z8 p0 hnX s0 s1
          clear b0 f0 hL hbr hsz
          replace st := st.out
          replace hbw := Asd.mk (st.choose_spec.choose_spec.2.2.2.1)
          have hszx := st.choose_spec.choose_spec.2.2.2.2
          have b0 : w3.cell? ⟨w.heap.size, 0, none⟩ = some (.slice A x.Nodes.length c) := by assumption
          have p0 := cell_below hbw.out b0
          obtain ⟨R, d, b0, f0, hL, hbr, hsz⟩ := st
          have p4 := cell_below hbw.out b4
          have p5 := (hbw.out.frozen (p := ⟨w.heap.size + 1 + 1, 0, none⟩) y2).trans f4
          have s0 : w.heap.size < (X2).heap.size := by omega
          have s2 : w.heap.size + 1 + 1 < (X2).heap.size := by omega
          replace hL := Asd.mk hL
          replace hbr := Asd.mk hbr
          go_wp2
          refine bodyPost_ret (v := .tuple #[.agg #[.slice R L2.length d], .int .i64 0]) (by simp [results, Try.results17, go_sem, *]) rfl ?_
          rw [e1.out, hlb.out]
          refine ⟨_, rfl, ?_, by repeat (first | (with_reducible exact Below.refl _ _) | (with_reducible exact below_st HW.out hbw.out) | (with_reducible refine below_al ?_ _) | (with_reducible refine below_dr ?_ _) | (with_reducible refine below_d1 ?_) | ((with_reducible refine Below.setCell ?_ ?_ _); rotate_left; (next => first | (simp; done) | (simp; omega) | omega)))⟩
          show Lie _ _ (NodesT _ _ _ (putAll x.Nodes _ _ n)) _
          unfold tB
          simp only [if_true, if_false, Bool.false_eq_true]
          rw [← e2.out]
          exact (hL.out.set (a := ⟨w.heap.size + 1 + 1, 0, none⟩) (fun h => by have := h.1; simp at this; omega) _).lie (fun b hb => by have := hb.1; omega)
        · have e2 := Asd.mk (putTo_end (t := 0) (n := n) (show a < x.Nodes.length by omega))
          have p0 := cell_below hbw.out b0
          obtain ⟨R, d, b0, f0, hL, hbr, hsz⟩ := st
          have p4 := cell_below hbw.out b4
          have p5 := (hbw.out.frozen (p := ⟨w.heap.size + 1 + 1, 0, none⟩) y2).trans f4
          have s0 : w.heap.size < (wr).heap.size := by omega
          have s2 : w.heap.size + 1 + 1 < (wr).heap.size := by omega
          replace hL := Asd.mk hL
          replace hbr := Asd.mk hbr
          go_wp2
          refine bodyPost_ret (v := .tuple #[.agg #[.slice R (putTo x.Nodes a 0 n x.Nodes.length).length d], .int .i64 0]) (by simp [results, Try.results17, go_sem, *]) rfl ?_
          rw [e1.out, hlb.out]
          refine ⟨_, rfl, ?_, by repeat (first | (with_reducible exact Below.refl _ _) | (with_reducible exact below_st HW.out hbw.out) | (with_reducible refine below_al ?_ _) | (with_reducible refine below_dr ?_ _) | (with_reducible refine below_d1 ?_) | ((with_reducible refine Below.setCell ?_ ?_ _); rotate_left; (next => first | (simp; done) | (simp; omega) | omega)))⟩
          show Lie _ _ (NodesT _ _ _ (putAll x.Nodes _ _ n)) _
          unfold tB
          simp only [if_true, if_false, Bool.false_eq_true]
          rw [← e2.out]
          exact (hL.out.set (a := ⟨w.heap.size + 1 + 1, 0, none⟩) (fun h => by have := h.1; simp at this; omega) _).lie (fun b hb => by have := hb.1; omega)
end Go.Proofs.Ytmjfkjdfmpileaa.M
