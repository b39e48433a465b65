/- Contracts: the reference's PutNode. -/
import Derived.Test.YtmjfkjdfmpileaaSdr
import Derived.Test.YtmjfkjdfmpileaaPuP
import Derived.Test.YtmjfkjdfmpileaaRwa
import Derived.Test.YtmjfkjdfmpileaaMrk
set_option linter.unusedVariables false
set_option linter.unusedSimpArgs false
attribute [local go_sem ↓] Go.wp_at_zero Go.wp_at_succ
namespace Go.Proofs.Ytmjfkjdfmpileaa.M
open Go.RowKit
/-- the values of the cells: the first k nodes passed, n's ahead of the one at place a -/
def vlTo (vs os : List Value) (a k : Nat) : List Value := if k ≤ a then vs.take (k * 3) else vs.take (a * 3) ++ (os ++ (vs.take (k * 3)).drop (a * 3))
theorem vlTo_zero (vs os : List Value) (a : Nat) : vlTo vs os a 0 = [] := by simp [vlTo]
theorem tk_step {vs us : List Value} {k : Nat} (h : vs.drop (k * 3) = us ++ vs.drop ((k + 1) * 3)) (hu : us.length = 3) (hk : k * 3 ≤ vs.length) : vs.take ((k + 1) * 3) = vs.take (k * 3) ++ us := by
  rw [show (k + 1) * 3 = k * 3 + 3 by omega, List.take_add, h, List.take_append_of_le_length (by omega), List.take_of_length_le (l := us) (by omega)]
theorem vlTo_lt {vs os us : List Value} {a k : Nat} (h : vs.drop (k * 3) = us ++ vs.drop ((k + 1) * 3)) (hu : us.length = 3) (hk : k * 3 ≤ vs.length) (hka : k < a) : vlTo vs os a (k + 1) = vlTo vs os a k ++ us := by
  unfold vlTo; rw [if_pos (by omega), if_pos (by omega), tk_step h hu hk]
theorem vlTo_at {vs os us : List Value} {a : Nat} (h : vs.drop (a * 3) = us ++ vs.drop ((a + 1) * 3)) (hu : us.length = 3) (hk : a * 3 ≤ vs.length) : vlTo vs os a (a + 1) = (vlTo vs os a a ++ os) ++ us := by
  have hl : (vs.take (a * 3)).length = a * 3 := by rw [List.length_take]; omega
  unfold vlTo
  rw [if_neg (by omega), if_pos (Nat.le_refl _), tk_step h hu hk, List.drop_append_of_le_length (by omega), List.drop_of_length_le (by omega)]
  simp
theorem vlTo_gt {vs os us : List Value} {a k : Nat} (h : vs.drop (k * 3) = us ++ vs.drop ((k + 1) * 3)) (hu : us.length = 3) (hk : k * 3 ≤ vs.length) (hka : a < k) : vlTo vs os a (k + 1) = vlTo vs os a k ++ us := by
  have hl : (vs.take (k * 3)).length = k * 3 := by rw [List.length_take]; omega
  unfold vlTo
  rw [if_neg (by omega), if_neg (by omega), tk_step h hu hk, List.drop_append_of_le_length (by omega)]
  simp
theorem Far.cellp {lo hi : Nat} {w w' : World} (h : Far lo hi w w') {p : Addr} (hb : p.block < w.heap.size) (hl : p.block < lo ∨ hi ≤ p.block) : w'.cell? p = w.cell? p := World.cell?_of_block (h.block p.block hb hl)
theorem vlTo_end {vs os : List Value} {a n : Nat} (hl : vs.length = n * 3) (ha : a < n) : vlTo vs os a n = vs.take (a * 3) ++ (os ++ vs.drop (a * 3)) := by
  unfold vlTo; rw [if_neg (by omega), List.take_of_length_le (l := vs) (i := n * 3) (by omega)]
theorem vlTo_end2 {vs os : List Value} {n : Nat} (hl : vs.length = n * 3) : vlTo vs os n n ++ os = vs.take (n * 3) ++ (os ++ vs.drop (n * 3)) := by
  unfold vlTo; rw [if_pos (Nat.le_refl _), List.drop_of_length_le (by omega), List.append_nil]
theorem own_cells {w : World} {e sz n : Nat} {cells : List T} {v : Value} {F : List Nat} (h : own w (.l e sz n cells) v F) (hn : F.Nodup) : ∃ vs G, owns w cells vs G ∧ G.Nodup ∧ (∀ b ∈ G, b ∈ F) ∧ (0 < n → ∃ g c, v = .slice (some ⟨g, 0, none⟩) n c ∧ ∀ j u, vs[j]? = some u → w.cell? ⟨g, j, none⟩ = some u) := by
  simp only [own] at h
  rcases h with ⟨vs, G, ho, hr, rfl, hng⟩ | ⟨rfl, rfl, rfl, A, rfl⟩
  · refine ⟨vs, G, hr, (List.nodup_append.1 hn).2.1, fun b hb => List.mem_append_right _ hb, fun h0 => ?_⟩
    obtain ⟨g, c, rfl, _⟩ := ho.form h0
    exact ⟨g, c, rfl, fun j u hj => by have := ho.cells (g := g) rfl j u hj; rwa [add_zero'] at this⟩
  · exact ⟨[], [], by simp [owns], List.nodup_nil, fun b hb => hb, fun h => absurd h (Nat.lt_irrefl _)⟩
/-- the whole list, owned: what was there around the new node -/
theorem own_put {W X : World} {xs : List Node} {a : Nat} {n : Node} {vs os : List Value} {G Go : List Nat} {v : Value} {lo : Nat} {W0 : World} (hv : owns W (xs.flatMap (Node.c 108 112)) vs G) (hG : G.Nodup) (ho : owns W (Node.c 108 112 n) os Go) (hGo : Go.Nodup) (hd : ∀ b ∈ G, b ∉ Go) (hX : ∀ b ∈ G ++ Go, X.heap[b]? = W.heap[b]?) (hlt : ∀ b ∈ G ++ Go, b < lo) (ha : a ≤ xs.length)
    (hr : RowSt lo X 46 3 (xs.length + 1) (vs.take (a * 3) ++ (os ++ vs.drop (a * 3))) v) (hge : ∀ b ∈ G ++ Go, W0.heap.size ≤ b) (hlo : W0.heap.size ≤ lo) : Made W0 X (NodesT 46 108 112 (putAll xs a 0 n)) v := by
  have e1 : xs.flatMap (Node.c 108 112) = (xs.take a).flatMap (Node.c 108 112) ++ (xs.drop a).flatMap (Node.c 108 112) := by rw [← List.flatMap_append, List.take_append_drop]
  rw [e1] at hv
  obtain ⟨v1, v2, G1, G2, rfl, h1, h2, rfl⟩ := owns_split hv
  have hl1 : v1.length = a * 3 := by rw [owns_length h1, length_flatMap (Node.c 108 112) 3 (fun _ => rfl), List.length_take, Nat.min_eq_left ha]
  rw [List.take_append_of_le_length (by omega), List.take_of_length_le (by omega), List.drop_append_of_le_length (by omega), List.drop_of_length_le (by omega), List.nil_append] at hr
  obtain ⟨n1, n2, n3⟩ := List.nodup_append.1 hG
  have k := (owns_append (h1.move (fun b hb => hX b (by simp [hb]))) (owns_append (ho.move (fun b hb => hX b (by simp [hb]))) (h2.move (fun b hb => hX b (by simp [hb])))))
  refine ⟨v.ownBlock.toList ++ (G1 ++ (Go ++ G2)), ?_, ?_, ?_⟩
  · unfold NodesT tl own
    refine .inl ⟨v1 ++ (os ++ v2), G1 ++ (Go ++ G2), ?_, ?_, rfl, fun b hb hb' => ?_⟩
    · have : (putAll xs a 0 n).length = xs.length + 1 := by unfold putAll; simp; omega
      rw [this]; exact hr.1
    · have : (putAll xs a 0 n).flatMap (Node.c 108 112) = (xs.take a).flatMap (Node.c 108 112) ++ (Node.c 108 112 n ++ (xs.drop a).flatMap (Node.c 108 112)) := by
        unfold putAll; rw [List.flatMap_append, List.flatMap_cons, Nat.add_zero]
      rw [this]; exact k
    · have h3 := hr.2 b hb
      have h4 := hlt b (by
        rcases List.mem_append.1 hb' with h | h
        · simp [h]
        · rcases List.mem_append.1 h with h | h <;> simp [h])
      omega
  · refine nod2 (by cases v.ownBlock <;> simp) (nod2 n1 (nod2 hGo n2 (fun b hb hb' => hd b (List.mem_append_right _ hb') hb)) (fun b hb hb' => ?_)) (fun b hb hb' => ?_)
    · rcases List.mem_append.1 hb' with h | h
      · exact hd b (List.mem_append_left _ hb) h
      · exact n3 b hb b h rfl
    · have h3 := hr.2 b (by cases hv2 : v.ownBlock <;> simp_all)
      have h4 := hlt b (by
        rcases List.mem_append.1 hb' with h | h
        · simp [h]
        · rcases List.mem_append.1 h with h | h <;> simp [h])
      omega
  · intro b hb
    rcases List.mem_append.1 hb with h | h
    · have h3 := hr.2 b (by cases hv2 : v.ownBlock <;> simp_all)
      omega
    · exact hge b (by
        rcases List.mem_append.1 h with h | h
        · simp [h]
        · rcases List.mem_append.1 h with h | h <;> simp [h])
theorem MFr.step {B : Nat} {Xo wr Z w7 : World} {u : Value} (hm : MFr [B] Xo wr) (hb : Below wr.heap.size wr Z) (hF : Far Xo.heap.size wr.heap.size Z w7) : MFr [B] Xo (w7.setCell ⟨B, 0, none⟩ u) := by
  have h1 : MFr [B] w7 (w7.setCell ⟨B, 0, none⟩ u) := MFr.of_set u (by simp)
  have h2 : MFr [B] Xo Z := hm.trans (MFr.of_below hb)
  have h3 : MFr [B] Xo w7 := ⟨hF.os.trans h2.os, hF.tape.trans h2.tape, hF.output.trans h2.output, Nat.le_trans h2.size hF.size, fun b hb hn => (hF.block b (Nat.lt_of_lt_of_le hb h2.size) (.inl hb)).trans (h2.block b hb hn)⟩
  exact h3.trans h1
/-- the new node, copied, stands in block ob -/
def OneSt (X0 : World) (n : Node) (ob : Nat) (Xo : World) (D : Option Addr) (d : Nat) : Prop := Below X0.heap.size X0 Xo ∧ X0.heap.size ≤ ob ∧ ob < Xo.heap.size ∧ Xo.cell? ⟨ob, 0, none⟩ = some (.string n.Name) ∧ Xo.cell? ⟨ob, 1, none⟩ = some (.int .i64 n.Action.Cost) ∧ Xo.cell? ⟨ob, 2, none⟩ = some (.slice D n.Action.Steps.length d) ∧ Lies X0.heap.size Xo (Node.c 108 112 n) [.string n.Name, .int .i64 n.Action.Cost, .slice D n.Action.Steps.length d]
theorem drop_lt {vs us : List Value} {k q : Nat} {u : Value} (h : vs.drop (k * 3) = us ++ vs.drop ((k + 1) * 3)) (hu : us[q]? = some u) : vs[k * 3 + q]? = some u := by
  rw [← List.getElem?_drop, h, List.getElem?_append_left (by
    rcases Nat.lt_or_ge q us.length with h | h
    · exact h
    · rw [List.getElem?_eq_none h] at hu; cases hu), hu]
set_option maxRecDepth 100000 in
set_option maxHeartbeats 8000000 in
theorem sPutNode_calls {tN tS tC tS' tC' : Nat} (x : Web) (n : Node) (w : World) {vs us : List Value} (h : reps w (x.c tN tS tC) vs) (h' : reps w (n.c tS' tC') us) (hz : x.Sm) (hz' : n.Action.Sm) :
    Calls Try.prog 15 #[.agg vs.toArray, .agg us.toArray] w (WebPost (putWeb x n) w) := by
  obtain ⟨v0, rfl, h0⟩ := Web.ropen h
  obtain ⟨A, c, rfl, _, _⟩ := rep_len h0
  obtain ⟨vn, rfl, hn⟩ := Node.ropen h'
  obtain ⟨An, cn, rfl, _, _⟩ := rep_len hn
  replace h0 := Asd.mk h0
  replace hn := Asd.mk hn
  clear h h'
  have HB := Asd.mk (below_al (below_al (below_al (Below.refl w.heap.size w) (.cells #[.slice A x.Nodes.length c] 28)) (.cells #[.string n.Name, .int .i64 n.Action.Cost, .slice An n.Action.Steps.length cn] 46)) (.cells #[.slice none 0 0] 28))
  have hz1 := Asd.mk hz
  have hz2 := Asd.mk hz'
  by_cases q1 : checkWeb x = 0
  rotate_left
  · have e1 := Asd.mk (show putWeb x n = (⟨[]⟩, 1) by rw [putWeb, if_pos q1])
    obtain ⟨m, hm⟩ : ∃ m, checkWeb x = m := ⟨_, rfl⟩
    have q2 : decide (m = 0) = false := by simp [← hm, q1]
    go_enter Try.func15, Try.ntmps15
    go_wp2_with fail
    refine (sCheckWeb_calls x _ (Web.rmk x (h0.out.below HB.out)) hz1.out).mono ?_
    rintro e w1 ⟨rfl, hb⟩
    obtain ⟨hcx, hfx⟩ := bcell hb
    have hzz : w.heap.size + 1 + 1 < w1.heap.size := by have := hb.size; simp at this; omega
    have hzy : w.heap.size < w1.heap.size := by omega
    have hzx : w.heap.size + 1 < w1.heap.size := by omega
    have HW := Asd.mk (below_st HB.out hb)
    clear hb
    rw [hm]
    replace q1 : m ≠ 0 := hm ▸ q1
    clear hm
    go_wp2
    refine bodyPost_ret (v := .tuple #[.agg #[.slice none 0 0], .int .i64 1]) (by simp [results, Try.results15, go_sem, *]) rfl ?_
    rw [e1.out]
    exact ⟨_, rfl, Lie.nil _ _ _ _, by repeat (first | (with_reducible exact Below.refl _ _) | (with_reducible exact HW.out) | (with_reducible refine below_al ?_ _) | (with_reducible refine below_dr ?_ _) | (with_reducible refine below_d1 ?_) | ((with_reducible refine Below.setCell ?_ ?_ _); rotate_left; (next => first | (simp; done) | (simp; omega) | omega)))⟩
  obtain ⟨hl, hA1, hA2, _⟩ := checkWeb_ok q1
  have hasc := Asd.mk (ascB_asc hA2)
  by_cases q2 : nameOk n.Name = true
  rotate_left
  · have e1 := Asd.mk (show putWeb x n = (⟨[]⟩, 2) by rw [putWeb, if_neg (by simp [q1]), if_pos (by simp [Bool.eq_false_iff.2 q2])])
    replace q2 := Bool.eq_false_iff.2 q2
    go_enter Try.func15, Try.ntmps15
    go_wp2_with fail
    refine (sCheckWeb_calls x _ (Web.rmk x (h0.out.below HB.out)) hz1.out).mono ?_
    rintro e w1 ⟨rfl, hb⟩
    obtain ⟨hcx, hfx⟩ := bcell hb
    have hzz : w.heap.size + 1 + 1 < w1.heap.size := by have := hb.size; simp at this; omega
    have hzy : w.heap.size < w1.heap.size := by omega
    have hzx : w.heap.size + 1 < w1.heap.size := by omega
    have HW := Asd.mk (below_st HB.out hb)
    clear hb
    rw [q1]
    go_wp2_with (first | (go_at_call 34; refine (l1NameOk_calls _ _).mono ?_; rintro e w' ⟨rfl, rfl⟩))
    refine bodyPost_ret (v := .tuple #[.agg #[.slice none 0 0], .int .i64 2]) (by simp [results, Try.results15, go_sem, *]) rfl ?_
    rw [e1.out]
    exact ⟨_, rfl, Lie.nil _ _ _ _, by repeat (first | (with_reducible exact Below.refl _ _) | (with_reducible exact HW.out) | (with_reducible refine below_al ?_ _) | (with_reducible refine below_dr ?_ _) | (with_reducible refine below_d1 ?_) | ((with_reducible refine Below.setCell ?_ ?_ _); rotate_left; (next => first | (simp; done) | (simp; omega) | omega)))⟩
  by_cases q3 : actionOk n.Action = true
  rotate_left
  · have e1 := Asd.mk (show putWeb x n = (⟨[]⟩, 2) by rw [putWeb, if_neg (by simp [q1]), if_pos (by simp [Bool.eq_false_iff.2 q3])])
    replace q3 := Bool.eq_false_iff.2 q3
    go_enter Try.func15, Try.ntmps15
    go_wp2_with fail
    refine (sCheckWeb_calls x _ (Web.rmk x (h0.out.below HB.out)) hz1.out).mono ?_
    rintro e w1 ⟨rfl, hb⟩
    obtain ⟨hcx, hfx⟩ := bcell hb
    have hzz : w.heap.size + 1 + 1 < w1.heap.size := by have := hb.size; simp at this; omega
    have hzy : w.heap.size < w1.heap.size := by omega
    have hzx : w.heap.size + 1 < w1.heap.size := by omega
    have HW := Asd.mk (below_st HB.out hb)
    clear hb
    rw [q1]
    go_wp2_with (first | (go_at_call 34; refine (l1NameOk_calls _ _).mono ?_; rintro e w' ⟨rfl, rfl⟩))
    refine (sValidAction_calls n.Action _ (Action.rmk _ (hn.out.below HW.out)) hz2.out).mono ?_
    rintro e w2 ⟨rfl, hb⟩
    have b0 : w2.cell? ⟨w.heap.size, 0, none⟩ = some (.slice A x.Nodes.length c) := by rw [hb.cell (by simp; omega), hcx _ _ (by simp; omega)]; go_simp
    have b1 : w2.cell? ⟨w.heap.size + 1, 0, none⟩ = some (.string n.Name) := by rw [hb.cell (by simp; omega), hcx _ _ (by first | (simp; done) | (simp; omega))]; go_simp
    have b2 : w2.cell? ⟨w.heap.size + 1, 1, none⟩ = some (.int .i64 n.Action.Cost) := by rw [hb.cell (by simp; omega), hcx _ _ (by first | (simp; done) | (simp; omega))]; go_simp
    have b3 : w2.cell? ⟨w.heap.size + 1, 2, none⟩ = some (.slice An n.Action.Steps.length cn) := by rw [hb.cell (by simp; omega), hcx _ _ (by first | (simp; done) | (simp; omega))]; go_simp
    have b4 : w2.cell? ⟨w.heap.size + 1 + 1, 0, none⟩ = some (.slice none 0 0) := by rw [hb.cell (by simp; omega), hcx _ _ (by first | (simp; done) | (simp; omega))]; go_simp
    have f4 : w2.frozen? ⟨w.heap.size + 1 + 1, 0, none⟩ = false := by rw [hb.frozen (by simp; omega), hfx _ _ (by first | (simp; done) | (simp; omega))]; go_simp
    have y0 : w.heap.size < w2.heap.size := by have := hb.size; omega
    have y1 : w.heap.size + 1 < w2.heap.size := by have := hb.size; omega
    have y2 : w.heap.size + 1 + 1 < w2.heap.size := by have := hb.size; omega
    replace HW := Asd.mk (below_st HW.out hb)
    clear hb hcx hfx hzz hzy hzx
    rw [q3]
    go_wp2
    refine bodyPost_ret (v := .tuple #[.agg #[.slice none 0 0], .int .i64 2]) (by simp [results, Try.results15, go_sem, *]) rfl ?_
    rw [e1.out]
    exact ⟨_, rfl, Lie.nil _ _ _ _, by repeat (first | (with_reducible exact Below.refl _ _) | (with_reducible exact HW.out) | (with_reducible refine below_al ?_ _) | (with_reducible refine below_dr ?_ _) | (with_reducible refine below_d1 ?_) | ((with_reducible refine Below.setCell ?_ ?_ _); rotate_left; (next => first | (simp; done) | (simp; omega) | omega)))⟩
  have hbn := Asd.mk (actionOk_bd q3)
  have hbd := Asd.mk (fun (m : Node) (hm : m ∈ x.Nodes) => (show m.Action.Steps.length ≤ 1000000 ∧ ∀ s ∈ m.Action.Steps, s.Bd from by
    obtain ⟨i, hi, rfl⟩ := List.getElem_of_mem hm
    have := web_bd q1 hi
    exact ⟨by omega, this.2⟩))
  have ha := findAt_lb n.Name hasc.out
  obtain ⟨a, hlb⟩ : ∃ a, lbN x.Nodes n.Name = a := ⟨_, rfl⟩
  rw [hlb] at ha
  have hdl := drop_len ha hasc.out
  have hdf := Asd.mk (drop_find ha hasc.out)
  have hpd := Asd.mk (put_of_drop ha hasc.out)
  have hae : a ≤ (dropNodes x.Nodes n.Name).length := by
    have h1 := (ha.there hasc.out)
    have h2 := ha.1
    cases hq : hasN x.Nodes n.Name with
    | true => rw [hq] at hdl; obtain ⟨h3, _⟩ := h1.1 hq; simp [tB] at hdl; omega
    | false => rw [hq] at hdl; simp [tB] at hdl; omega
  obtain ⟨L0, hL0⟩ : ∃ L, dropNodes x.Nodes n.Name = L := ⟨_, rfl⟩
  simp only [hL0] at hdf hpd hdl hae
  by_cases q4 : 60 ≤ L0.length
  · have e1 := Asd.mk (show putWeb x n = (⟨[]⟩, 3) by
      rw [putWeb, if_neg (by simp [q1]), if_neg (by simp [q2, q3]), if_pos]
      cases hq : hasN x.Nodes n.Name with
      | true => rw [hq] at hdl; simp [tB] at hdl; omega
      | false => rw [hq] at hdl; simp [tB] at hdl; exact ⟨rfl, by omega⟩)
    have q5 : (60 : Int) ≤ (L0.length : Int) := by omega
    clear hdl
    go_enter Try.func15, Try.ntmps15
    go_wp2_with fail
    refine (sCheckWeb_calls x _ (Web.rmk x (h0.out.below HB.out)) hz1.out).mono ?_
    rintro e w1 ⟨rfl, hb⟩
    obtain ⟨hcx, hfx⟩ := bcell hb
    have hzz : w.heap.size + 1 + 1 < w1.heap.size := by have := hb.size; simp at this; omega
    have hzy : w.heap.size < w1.heap.size := by omega
    have hzx : w.heap.size + 1 < w1.heap.size := by omega
    have HW := Asd.mk (below_st HB.out hb)
    clear hb
    rw [q1]
    go_wp2_with (first | (go_at_call 34; refine (l1NameOk_calls _ _).mono ?_; rintro e w' ⟨rfl, rfl⟩))
    refine (sValidAction_calls n.Action _ (Action.rmk _ (hn.out.below HW.out)) hz2.out).mono ?_
    rintro e w2 ⟨rfl, hb⟩
    have b0 : w2.cell? ⟨w.heap.size, 0, none⟩ = some (.slice A x.Nodes.length c) := by rw [hb.cell (by simp; omega), hcx _ _ (by simp; omega)]; go_simp
    have b1 : w2.cell? ⟨w.heap.size + 1, 0, none⟩ = some (.string n.Name) := by rw [hb.cell (by simp; omega), hcx _ _ (by first | (simp; done) | (simp; omega))]; go_simp
    have b2 : w2.cell? ⟨w.heap.size + 1, 1, none⟩ = some (.int .i64 n.Action.Cost) := by rw [hb.cell (by simp; omega), hcx _ _ (by first | (simp; done) | (simp; omega))]; go_simp
    have b3 : w2.cell? ⟨w.heap.size + 1, 2, none⟩ = some (.slice An n.Action.Steps.length cn) := by rw [hb.cell (by simp; omega), hcx _ _ (by first | (simp; done) | (simp; omega))]; go_simp
    have b4 : w2.cell? ⟨w.heap.size + 1 + 1, 0, none⟩ = some (.slice none 0 0) := by rw [hb.cell (by simp; omega), hcx _ _ (by first | (simp; done) | (simp; omega))]; go_simp
    have f4 : w2.frozen? ⟨w.heap.size + 1 + 1, 0, none⟩ = false := by rw [hb.frozen (by simp; omega), hfx _ _ (by first | (simp; done) | (simp; omega))]; go_simp
    have y0 : w.heap.size < w2.heap.size := by have := hb.size; omega
    have y1 : w.heap.size + 1 < w2.heap.size := by have := hb.size; omega
    have y2 : w.heap.size + 1 + 1 < w2.heap.size := by have := hb.size; omega
    replace HW := Asd.mk (below_st HW.out hb)
    clear hb hcx hfx hzz hzy hzx
    rw [q3]
    go_wp2_with fail
    refine (l2Without_calls x n.Name _ (Web.rmk x (h0.out.below HW.out)) (by omega) hbd.out).mono ?_
    rw [hL0]
    rintro e w4 ⟨us, rfl, ⟨F, o1, n1, l1⟩, hb⟩
    obtain ⟨v3, F3, rfl, o3, rfl⟩ := Web.oopen o1
    obtain ⟨Ao, Co, rfl, _, _⟩ := own_slice (show own w4 (NodesT _ _ _ L0) _ _ from o3)
    replace b1 := cell_below hb b1
    replace b2 := cell_below hb b2
    replace b3 := cell_below hb b3
    replace b4 := cell_below hb b4
    replace f4 := (hb.frozen (p := ⟨w.heap.size + 1 + 1, 0, none⟩) y2).trans f4
    have l1' := Asd.mk (fun b hb => (show w.heap.size + 1 + 1 + 1 ≤ b from by have := l1 b hb; omega))
    replace y0 : w.heap.size < w4.heap.size := by have := hb.size; omega
    replace y1 : w.heap.size + 1 < w4.heap.size := by have := hb.size; omega
    replace y2 : w.heap.size + 1 + 1 < w4.heap.size := by have := hb.size; omega
    replace HW := Asd.mk (below_st HW.out hb)
    clear hb b0 o1 l1
    clear o3 n1 l1'
    go_wp2
    refine bodyPost_ret (v := .tuple #[.agg #[.slice none 0 0], .int .i64 3]) (by simp [results, Try.results15, go_sem, *]) rfl ?_
    rw [e1.out]
    exact ⟨_, rfl, Lie.nil _ _ _ _, by repeat (first | (with_reducible exact Below.refl _ _) | (with_reducible exact HW.out) | (with_reducible refine below_al ?_ _) | (with_reducible refine below_dr ?_ _) | (with_reducible refine below_d1 ?_) | ((with_reducible refine Below.setCell ?_ ?_ _); rotate_left; (next => first | (simp; done) | (simp; omega) | omega)))⟩
  have e1 := Asd.mk (show putWeb x n = (⟨putAll x.Nodes a (tB (hasN x.Nodes n.Name)) n⟩, 0) by
    rw [putWeb, if_neg (by simp [q1]), if_neg (by simp [q2, q3]), if_neg (fun hc => by rw [hc.1] at hdl; simp [tB] at hdl; omega), hlb])
  have q5 : ¬(60 : Int) ≤ (L0.length : Int) := by omega
  have hl0 : L0.length ≤ 59 := by omega
  clear hdl q4 ha
  go_enter Try.func15, Try.ntmps15
  go_wp2_with fail
  refine (sCheckWeb_calls x _ (Web.rmk x (h0.out.below HB.out)) hz1.out).mono ?_
  rintro e w1 ⟨rfl, hb⟩
  obtain ⟨hcx, hfx⟩ := bcell hb
  have hzz : w.heap.size + 1 + 1 < w1.heap.size := by have := hb.size; simp at this; omega
  have hzy : w.heap.size < w1.heap.size := by omega
  have hzx : w.heap.size + 1 < w1.heap.size := by omega
  have HW := Asd.mk (below_st HB.out hb)
  clear hb
  rw [q1]
  go_wp2_with (first | (go_at_call 34; refine (l1NameOk_calls _ _).mono ?_; rintro e w' ⟨rfl, rfl⟩))
  refine (sValidAction_calls n.Action _ (Action.rmk _ (hn.out.below HW.out)) hz2.out).mono ?_
  rintro e w2 ⟨rfl, hb⟩
  have b0 : w2.cell? ⟨w.heap.size, 0, none⟩ = some (.slice A x.Nodes.length c) := by rw [hb.cell (by simp; omega), hcx _ _ (by simp; omega)]; go_simp
  have b1 : w2.cell? ⟨w.heap.size + 1, 0, none⟩ = some (.string n.Name) := by rw [hb.cell (by simp; omega), hcx _ _ (by first | (simp; done) | (simp; omega))]; go_simp
  have b2 : w2.cell? ⟨w.heap.size + 1, 1, none⟩ = some (.int .i64 n.Action.Cost) := by rw [hb.cell (by simp; omega), hcx _ _ (by first | (simp; done) | (simp; omega))]; go_simp
  have b3 : w2.cell? ⟨w.heap.size + 1, 2, none⟩ = some (.slice An n.Action.Steps.length cn) := by rw [hb.cell (by simp; omega), hcx _ _ (by first | (simp; done) | (simp; omega))]; go_simp
  have b4 : w2.cell? ⟨w.heap.size + 1 + 1, 0, none⟩ = some (.slice none 0 0) := by rw [hb.cell (by simp; omega), hcx _ _ (by first | (simp; done) | (simp; omega))]; go_simp
  have f4 : w2.frozen? ⟨w.heap.size + 1 + 1, 0, none⟩ = false := by rw [hb.frozen (by simp; omega), hfx _ _ (by first | (simp; done) | (simp; omega))]; go_simp
  have y0 : w.heap.size < w2.heap.size := by have := hb.size; omega
  have y1 : w.heap.size + 1 < w2.heap.size := by have := hb.size; omega
  have y2 : w.heap.size + 1 + 1 < w2.heap.size := by have := hb.size; omega
  replace HW := Asd.mk (below_st HW.out hb)
  clear hb hcx hfx hzz hzy hzx
  rw [q3]
  go_wp2_with fail
  refine (l2Without_calls x n.Name _ (Web.rmk x (h0.out.below HW.out)) (by omega) hbd.out).mono ?_
  rw [hL0]
  rintro e w4 ⟨us, rfl, ⟨F, o1, n1, l1⟩, hb⟩
  obtain ⟨v3, F3, rfl, o3, rfl⟩ := Web.oopen o1
  obtain ⟨Ao, Co, rfl, _, _⟩ := own_slice (show own w4 (NodesT _ _ _ L0) _ _ from o3)
  replace b1 := cell_below hb b1
  replace b2 := cell_below hb b2
  replace b3 := cell_below hb b3
  replace b4 := cell_below hb b4
  replace f4 := (hb.frozen (p := ⟨w.heap.size + 1 + 1, 0, none⟩) y2).trans f4
  have l1' := Asd.mk (fun b hb => (show w.heap.size + 1 + 1 + 1 ≤ b from by have := l1 b hb; omega))
  replace y0 : w.heap.size < w4.heap.size := by have := hb.size; omega
  replace y1 : w.heap.size + 1 < w4.heap.size := by have := hb.size; omega
  replace y2 : w.heap.size + 1 + 1 < w4.heap.size := by have := hb.size; omega
  replace HW := Asd.mk (below_st HW.out hb)
  clear hb b0 o1 l1
  obtain ⟨vs0, G, hvs, hG, hGF, hcell⟩ := own_cells (show own w4 (NodesT 46 108 112 L0) _ _ from o3) n1
  have hGl := Asd.mk (fun b hb => l1'.out b (hGF b hb))
  have hGt := Asd.mk hvs.lt
  have hvl := Asd.mk (show vs0.length = L0.length * 3 by rw [owns_length hvs, length_flatMap (Node.c 108 112) 3 (fun _ => rfl)])
  replace hvs := Asd.mk hvs
  replace hG := Asd.mk hG
  replace hcell := Asd.mk hcell
  clear o3 n1 l1' hGF
  go_wp2
  obtain ⟨X0, hX0⟩ : ∃ X : World, X = (w4.alloc (.cells #[.slice Ao L0.length Co] 28)).alloc (.cells #[.slice none 0 0] 28) := ⟨_, rfl⟩
  rw [← hX0]
  have zX : X0.heap.size = w4.heap.size + 1 + 1 := by rw [hX0]; simp
  have HX4 := Asd.mk (show Below w4.heap.size w4 X0 by rw [hX0]; exact below_al (below_al (Below.refl _ _) _) _)
  have c6 : X0.cell? ⟨w4.heap.size, 0, none⟩ = some (.slice Ao L0.length Co) := by rw [hX0]; go_simp
  have c7 : X0.cell? ⟨w4.heap.size + 1, 0, none⟩ = some (.slice none 0 0) := by rw [hX0]; go_simp
  have f7 : X0.frozen? ⟨w4.heap.size + 1, 0, none⟩ = false := by rw [hX0]; go_simp
  replace b1 := cell_below HX4.out b1
  replace b2 := cell_below HX4.out b2
  replace b3 := cell_below HX4.out b3
  replace b4 := cell_below HX4.out b4
  replace f4 := (HX4.out.frozen (p := ⟨w.heap.size + 1 + 1, 0, none⟩) y2).trans f4
  have HX := Asd.mk (below_st HW.out HX4.out)
  replace zX : X0.heap.size ≤ w4.heap.size + 1 + 1 ∧ w4.heap.size + 1 + 1 ≤ X0.heap.size := ⟨by omega, by omega⟩
  obtain ⟨zXa, zXb⟩ := zX
  clear hX0
  have hS : ∀ X, Below X0.heap.size X0 X → (X.cell? ⟨w.heap.size + 1, 0, none⟩ = some (.string n.Name) ∧ X.cell? ⟨w.heap.size + 1, 1, none⟩ = some (.int .i64 n.Action.Cost) ∧ X.cell? ⟨w.heap.size + 1, 2, none⟩ = some (.slice An n.Action.Steps.length cn)) := fun X hX => ⟨cell_below hX b1, cell_below hX b2, cell_below hX b3⟩
  replace hS := Asd.mk hS
  have hbn1 := hbn.out.1
  go_region_held3 (fun X => X.cell? ⟨w.heap.size + 1, 0, none⟩ = some (.string n.Name) ∧ X.cell? ⟨w.heap.size + 1, 1, none⟩ = some (.int .i64 n.Action.Cost) ∧ X.cell? ⟨w.heap.size + 1, 2, none⟩ = some (.slice An n.Action.Steps.length cn)) ((refine hS.out _ ?_; (repeat (first | (with_reducible exact Below.refl _ _) | (with_reducible exact hb5.out) | (with_reducible refine below_al ?_ _) | (with_reducible refine below_dr ?_ _) | (with_reducible refine below_d1 ?_) | ((with_reducible refine Below.setCell ?_ ?_ _); rotate_left; (next => first | (simp; done) | (simp; omega) | omega)))); done))
    ((go_at_call 46; refine (l1Copy_calls n.Action _ (Action.rmk _ (hn.out.below (by repeat (first | (with_reducible exact Below.refl _ _) | (with_reducible exact HX.out) | (with_reducible refine below_al ?_ _) | (with_reducible refine below_dr ?_ _) | (with_reducible refine below_d1 ?_) | ((with_reducible refine Below.setCell ?_ ?_ _); rotate_left; (next => first | (simp; done) | (simp; omega) | omega)))))) (by omega) hbn.out.2).mono ?_; rintro e w5 ⟨us, rfl, hM, hb5_⟩; have hM2 := Asd.mk hM.lies; obtain ⟨F_, o_, n_, l_⟩ := hM; obtain ⟨v2_, G2_, rfl, p2_, rfl⟩ := Action.oopen o_; obtain ⟨D2, d3, rfl, _, _⟩ := own_slice p2_; clear p2_ n_ l_ o_; have hb5 := Asd.mk (show Below X0.heap.size X0 w5 from below_st (by repeat (first | (with_reducible exact Below.refl _ _) | (with_reducible exact Below.refl _ _) | (with_reducible refine below_al ?_ _) | (with_reducible refine below_dr ?_ _) | (with_reducible refine below_d1 ?_) | ((with_reducible refine Below.setCell ?_ ?_ _); rotate_left; (next => first | (simp; done) | (simp; omega) | omega)))) hb5_); obtain ⟨hcx, hfx⟩ := bcell hb5_; have z5 := hb5_.size; (try simp at z5); clear hb5_))
  all_goals go_wp2
  all_goals
    have hb5s := hb5.out.size
    first
      | (obtain ⟨Xo, hXo⟩ : ∃ Z : World, Z = w5.alloc (.cells #[.string n.Name, .int .i64 n.Action.Cost, .slice D2 n.Action.Steps.length d3] 46) := ⟨_, rfl⟩
         rw [← hXo]
         obtain ⟨ob, hob⟩ : ∃ b : Nat, b = w5.heap.size := ⟨_, rfl⟩
         rw [← hob]
         have hO : OneSt X0 n ob Xo D2 d3 := by
           rw [hXo, hob]
           exact ⟨below_al hb5.out _, hb5s, by simp, by go_simp, by go_simp, by go_simp, ((Node.lies_of hM2.out).below (below_al (Below.refl _ _) _)).mono (by simp)⟩
         clear hXo hob hcx hfx hM2 hb5 hb5s z5)
      | (obtain ⟨Xo, hXo⟩ : ∃ Z : World, Z = ((w5.setCell ⟨X0.heap.size, 0, none⟩ (.string n.Name)).setCell ⟨X0.heap.size, 1, none⟩ (.int .i64 n.Action.Cost)).setCell ⟨X0.heap.size, 2, none⟩ (.slice D2 n.Action.Steps.length d3) := ⟨_, rfl⟩
         rw [← hXo]
         obtain ⟨ob, hob⟩ : ∃ b : Nat, b = X0.heap.size := ⟨_, rfl⟩
         have hO : OneSt X0 n ob Xo D2 d3 := by
           rw [hXo, hob]
           have h9 := hM2.out.mono (l := X0.heap.size + 1) (by simp)
           exact ⟨by repeat (first | (with_reducible exact Below.refl _ _) | (with_reducible exact hb5.out) | (with_reducible refine below_al ?_ _) | (with_reducible refine below_dr ?_ _) | (with_reducible refine below_d1 ?_) | ((with_reducible refine Below.setCell ?_ ?_ _); rotate_left; (next => first | (simp; done) | (simp; omega) | omega))), Nat.le_refl _, by simp; omega, by go_simp, by go_simp, by go_simp, ((((Node.lies_of h9).set (p := ⟨X0.heap.size, 0, none⟩) (by simp) _).set (p := ⟨X0.heap.size, 1, none⟩) (by simp) _).set (p := ⟨X0.heap.size, 2, none⟩) (by simp) _).mono (by omega)⟩
         rw [← hob]
         clear hXo hob hcx hfx hM2 hb5 hb5s z5)
    obtain ⟨hO1, hO2, hO3, o0, o1, o2, hO4⟩ := hO
    replace hO1 := Asd.mk hO1
    replace hO4 := Asd.mk hO4
    have hO1s := hO1.out.size
    have B7 := cell_below hO1.out c7
    have F7 := (hO1.out.frozen (p := ⟨w4.heap.size + 1, 0, none⟩) (by simp; omega)).trans f7
    have hXa : w4.heap.size + 1 < Xo.heap.size := by omega
    go_loopw [9, 10] (fun d i wr => ∃ (k : Nat) (v : Value), k ≤ L0.length ∧ i = .int .i64 k ∧ d = .bool (decide (a < k)) ∧ wr.cell? ⟨w4.heap.size + 1, 0, none⟩ = some v ∧ wr.frozen? ⟨w4.heap.size + 1, 0, none⟩ = false ∧ RowSt Xo.heap.size wr 46 3 (putTo L0 a 0 n k).length (vlTo vs0 [.string n.Name, .int .i64 n.Action.Cost, .slice D2 n.Action.Steps.length d3] a k) v ∧ MFr [w4.heap.size + 1] Xo wr) (fun _ i _ => L0.length - (intOf i).toNat)
    case atStart => exact ⟨0, .slice none 0 0, by omega, rfl, by simp, B7, F7, by rw [putTo_zero, vlTo_zero]; exact RowSt.nil _ _ _ _, MFr.refl _ _⟩
    case round =>
      obtain ⟨k, v, hk, rfl, rfl, bv, fv, hR, hm⟩ := hrel
      obtain ⟨A', c', rfl, _⟩ := hR.slice
      have hms := hm.size
      have q6 := (hm.cell (b := w4.heap.size) (o := 0) (by omega) (by simp)).trans (cell_below hO1.out c6)
      have r0 := (hm.cell (b := ob) (o := 0) hO3 (by simp; omega)).trans o0
      have r1 := (hm.cell (b := ob) (o := 1) hO3 (by simp; omega)).trans o1
      have r2 := (hm.cell (b := ob) (o := 2) hO3 (by simp; omega)).trans o2
      have rn := (hm.cell (b := w.heap.size + 1) (o := 0) (by omega) (by simp; omega)).trans (cell_below hO1.out b1)
      have zw : w4.heap.size + 1 < wr.heap.size := by omega
      have hlen := putTo_len (a := a) (t := 0) (n := n) hk
      by_cases hlt : k < L0.length
      · obtain ⟨g, c9, heq, hc9⟩ := hcell.out (by omega)
        obtain ⟨ad, had⟩ : ∃ ad : Addr, ad = ⟨g, 0, none⟩ := ⟨_, rfl⟩
        rw [← had] at heq
        cases heq
        obtain ⟨us, hus, hdr, hul⟩ := reps_elem (enc := Node.c 108 112) (sz := 3) (fun _ => rfl) hvs.out.rep hlt
        obtain ⟨u2, rfl, hu2⟩ := Node.ropen hus
        obtain ⟨B2, d2, rfl, _, _⟩ := rep_len hu2
        have hgb0 : g < w4.heap.size := World.block_lt_of_cell? _ _ (hc9 _ _ (drop_lt (q := 0) hdr rfl))
        have hgb : (ad.add (k * 3)).block < w4.heap.size := by rw [had, add_zero']; exact hgb0
        have hcX : ∀ q u, ([.string L0[k].Name, .int .i64 L0[k].Action.Cost, .slice B2 L0[k].Action.Steps.length d2] : List Value)[q]? = some u → wr.cell? (ad.add (k * 3 + q)) = some u := fun q u hq => by rw [had, add_zero']; exact (hm.cell (by omega) (by simp; omega)).trans (cell_below hO1.out (cell_below HX4.out (hc9 _ _ (drop_lt hdr hq))))
        have k0 : wr.cell? (ad.add (k * 3)) = some (.string L0[k].Name) := hcX 0 _ rfl
        have k1 : wr.cell? ⟨(ad.add (k * 3)).block, (ad.add (k * 3)).off + 1, none⟩ = some (.int .i64 L0[k].Action.Cost) := by rw [← add_fld _ _ 1 (by omega)]; exact hcX 1 _ rfl
        have k2 : wr.cell? ⟨(ad.add (k * 3)).block, (ad.add (k * 3)).off + 2, none⟩ = some (.slice B2 L0[k].Action.Steps.length d2) := by rw [← add_fld _ _ 2 (by omega)]; exact hcX 2 _ rfl
        have hdf1 := hdf.out k hlt
        have hne : L0[k].Name ≠ n.Name := by
          have : L0[k] ∈ dropNodes x.Nodes n.Name := by rw [hL0]; exact List.getElem_mem hlt
          exact (neN_iff _ _).1 (by unfold dropNodes at this; exact (List.mem_filter.1 this).2)
        have i0 : (0 : Int) ≤ (k : Int) := by omega
        have i1 : (k : Int) < (L0.length : Int) := by omega
        have hkl : k * 3 ≤ vs0.length := by rw [hvl.out]; omega
        replace hdr := Asd.mk hdr
        replace hR := Asd.mk hR
        replace hm := Asd.mk hm
        clear hus hu2 hcX hc9 had hgb0
        rcases Nat.lt_trichotomy k a with hka | hka | hka
        · have hd : decide (a < k) = false := by simp; omega
          have hb1 : Op.bytesLess n.Name.toList L0[k].Name.toList = false := by rw [show Op.bytesLess n.Name.toList L0[k].Name.toList = ltS n.Name L0[k].Name from rfl, hdf1]; simp; omega
          have hb2 : Op.bytesLess L0[k].Name.toList n.Name.toList = true := by
            cases hq : ltS L0[k].Name n.Name with
            | true => exact hq
            | false => exact absurd (ltS_tri hq hb1) hne
          have hb3 : (L0[k].Name.toList == n.Name.toList) = false := Bool.eq_false_iff.2 (fun h => hne ((ba_eq _ _).1 h))
          replace hne := Asd.mk hne
          replace hdf1 := Asd.mk hdf1
          have E2_ := Asd.mk (putTo_lt (t := 0) (n := n) hlt hka)
          have E3_ := Asd.mk (vlTo_lt (os := [.string n.Name, .int .i64 n.Action.Cost, .slice D2 n.Action.Steps.length d3]) hdr.out rfl hkl hka)
          rw [hd]
          go_wp2
          go_quiet (fail)
          go_wp2
          generalize hX : wr.drewN _ = X
          have hXb := Asd.mk (show Below wr.heap.size wr X from hX ▸ below_dr (Below.refl _ _) _)
          have sX : X.heap.size = wr.heap.size := by rw [← hX]; rfl
          have bX := cell_below hXb.out bv
          have qX := cell_below hXb.out q6
          have x0 := cell_below hXb.out k0
          have x1 := cell_below hXb.out k1
          have x2 := cell_below hXb.out k2
          have fX := (hXb.out.frozen (p := ⟨w4.heap.size + 1, 0, none⟩) zw).trans fv
          have hRX := Asd.mk (hR.out.below hXb.out)
          have hmX := Asd.mk (hm.out.trans (MFr.of_below hXb.out))
          have sX2 : Xo.heap.size ≤ X.heap.size := by omega
          have wX0 : w4.heap.size < X.heap.size := by omega
          have wX1 : w4.heap.size + 1 < X.heap.size := by omega
          have wX2 : (ad.add (k * 3)).block < X.heap.size := by omega
          clear hX bv q6 k0 k1 k2 fv hR hm hXb sX
          refine wp_region_G (last := 10) (S := fun Z => Z.cell? ⟨w4.heap.size + 1, 0, none⟩ = some (.slice A' ((putTo L0 a 0 n k).length) c') ∧ Z.cell? ⟨w4.heap.size, 0, none⟩ = some (.slice (some ad) L0.length Co) ∧ Z.cell? (ad.add (k * 3)) = some (.string L0[k].Name) ∧ Z.cell? ⟨(ad.add (k * 3)).block, (ad.add (k * 3)).off + 1, none⟩ = some (.int .i64 L0[k].Action.Cost) ∧ Z.cell? ⟨(ad.add (k * 3)).block, (ad.add (k * 3)).off + 2, none⟩ = some (.slice B2 L0[k].Action.Steps.length d2)) (by kernel_rfl) ?_
          have hH : (X).drew.cell? ⟨w4.heap.size + 1, 0, none⟩ = some (.slice A' ((putTo L0 a 0 n k).length) c') ∧ (X).drew.cell? ⟨w4.heap.size, 0, none⟩ = some (.slice (some ad) L0.length Co) ∧ (X).drew.cell? (ad.add (k * 3)) = some (.string L0[k].Name) ∧ (X).drew.cell? ⟨(ad.add (k * 3)).block, (ad.add (k * 3)).off + 1, none⟩ = some (.int .i64 L0[k].Action.Cost) ∧ (X).drew.cell? ⟨(ad.add (k * 3)).block, (ad.add (k * 3)).off + 2, none⟩ = some (.slice B2 L0[k].Action.Steps.length d2) := ⟨bX, qX, x0, x1, x2⟩
          ((refine wpG_take (i := 0) (v := ?_) rfl rfl (by kernel_rfl) (by kernel_rfl) (by kernel_rfl) (by kernel_rfl) (fun _ _ _ h => h) (Or.inl ⟨by rfl, ?_⟩) (by assumption) ?_; rotate_left; (next => ((intro X hX; (try dsimp only at hX); go_simp); try with_reducible rfl))); (try simp only [Act.put, List.setIfInBounds_toArray, List.set_cons_zero, List.set_cons_succ]); (refine wpG_take (i := 1) (v := ?_) rfl rfl (by kernel_rfl) (by kernel_rfl) (by kernel_rfl) (by kernel_rfl) (fun _ _ _ h => h) (Or.inl ⟨by rfl, ?_⟩) (by assumption) ?_; rotate_left; (next => ((intro X hX; (try dsimp only at hX); go_simp); try with_reducible rfl))); (try simp only [Act.put, List.setIfInBounds_toArray, List.set_cons_zero, List.set_cons_succ]); (refine wpG_take (i := 2) (v := ?_) rfl rfl (by kernel_rfl) (by kernel_rfl) (by kernel_rfl) (by kernel_rfl) (fun _ _ _ h => h) (Or.inl ⟨by rfl, ?_⟩) (by assumption) ?_; rotate_left; (next => ((intro X hX; (try dsimp only at hX); go_simp); try with_reducible rfl))); (try simp only [Act.put, List.setIfInBounds_toArray, List.set_cons_zero, List.set_cons_succ]); (refine wpG_take (i := 3) (v := ?_) rfl rfl (by kernel_rfl) (by kernel_rfl) (by kernel_rfl) (by kernel_rfl) (fun _ _ _ h => h) (Or.inl ⟨by rfl, ?_⟩) (by assumption) ?_; rotate_left; (next => ((intro X hX; (try dsimp only at hX); go_simp); try with_reducible rfl))); (try simp only [Act.put, List.setIfInBounds_toArray, List.set_cons_zero, List.set_cons_succ]); (refine wpG_take (i := 4) (v := ?_) rfl rfl (by kernel_rfl) (by kernel_rfl) (by kernel_rfl) (by kernel_rfl) (fun _ _ _ h => h) (Or.inl ⟨by rfl, ?_⟩) (by assumption) ?_; rotate_left; (next => ((intro X hX; (try dsimp only at hX); go_simp); try with_reducible rfl))); (try simp only [Act.put, List.setIfInBounds_toArray, List.set_cons_zero, List.set_cons_succ]); (refine wpG_take (i := 5) (v := ?_) rfl rfl (by kernel_rfl) (by kernel_rfl) (by kernel_rfl) (by kernel_rfl) (fun _ _ _ h => h) (Or.inl ⟨by rfl, ?_⟩) (by assumption) ?_; rotate_left; (next => ((intro X hX; (try dsimp only at hX); go_simp); try with_reducible rfl))); (try simp only [Act.put, List.setIfInBounds_toArray, List.set_cons_zero, List.set_cons_succ]); (refine wpG_take (i := 6) (v := ?_) rfl rfl (by kernel_rfl) (by kernel_rfl) (by kernel_rfl) (by kernel_rfl) (fun _ _ _ h => h) (Or.inl ⟨by rfl, ?_⟩) (by assumption) ?_; rotate_left; (next => ((intro X hX; (try dsimp only at hX); go_simp); try with_reducible rfl))); (try simp only [Act.put, List.setIfInBounds_toArray, List.set_cons_zero, List.set_cons_succ]))
          (refine wpG_one (i := 7) (by kernel_rfl) rfl (fun K hK => ?_))
          go_simp
          refine hK.out _ _ (fun _ => ⟨by go_simp, by go_simp, by go_simp, by go_simp, by go_simp⟩) ?_
          clear hK K hH
          (try simp only [Act.put, List.setIfInBounds_toArray, List.set_cons_zero, List.set_cons_succ])
          (refine wpG_one (i := 8) (by kernel_rfl) rfl (fun K hK => ?_))
          refine step_appRow (by rfl) (by rfl) Try.underlying26 info_Node rfl (by decide) (by rfl) (lo := Xo.heap.size) (wr := X) (by omega) hRX.out (by repeat (first | (with_reducible exact Below.refl _ _) | (with_reducible exact Below.refl _ _) | (with_reducible refine below_al ?_ _) | (with_reducible refine below_dr ?_ _) | (with_reducible refine below_d1 ?_) | ((with_reducible refine Below.setCell ?_ ?_ _); rotate_left; (next => first | (simp; done) | (simp; omega) | omega)))) (by rfl) (World.news_of_block (heap_alloc_new _ _)) (by simp) (by simp [Value.oneCell']) (by simp [maxLen]; omega) (by omega) ?_
          intro v7 w7 hR7 hF7
          have t0 := (hF7.cell (b := w4.heap.size + 1) (o := 0) (by first | (simp; done) | (simp; omega)) (.inl (by omega))).trans (by go_simp : _ = some (.slice A' ((putTo L0 a 0 n k).length) c'))
          have t1 := (hF7.cell (b := w4.heap.size) (o := 0) (by first | (simp; done) | (simp; omega)) (.inl (by omega))).trans (by go_simp : _ = some (.slice (some ad) L0.length Co))
          have t2 := (hF7.cellp (p := ad.add (k * 3)) (by first | (simp; done) | (simp; omega)) (.inl (by omega))).trans (by go_simp : _ = some (.string L0[k].Name))
          have t3 := (hF7.cell (b := (ad.add (k * 3)).block) (o := (ad.add (k * 3)).off + 1) (by first | (simp; done) | (simp; omega)) (.inl (by omega))).trans (by go_simp : _ = some (.int .i64 L0[k].Action.Cost))
          have t4 := (hF7.cell (b := (ad.add (k * 3)).block) (o := (ad.add (k * 3)).off + 2) (by first | (simp; done) | (simp; omega)) (.inl (by omega))).trans (by go_simp : _ = some (.slice B2 L0[k].Action.Steps.length d2))
          have tf := (hF7.frozen (b := w4.heap.size + 1) (o := 0) (by first | (simp; done) | (simp; omega)) (.inl (by omega))).trans (((show Below (X).heap.size (X) _ from by repeat (first | (with_reducible exact Below.refl _ _) | (with_reducible exact Below.refl _ _) | (with_reducible refine below_al ?_ _) | (with_reducible refine below_dr ?_ _) | (with_reducible refine below_d1 ?_) | ((with_reducible refine Below.setCell ?_ ?_ _); rotate_left; (next => first | (simp; done) | (simp; omega) | omega)))).frozen (p := ⟨w4.heap.size + 1, 0, none⟩) (by simp; omega)).trans fX)
          obtain ⟨A7, c7', rfl, _⟩ := hR7.slice
          have m7 := Asd.mk (MFr.step (u := .slice A7 (((putTo L0 a 0 n k).length) + 1) c7') hmX.out (by repeat (first | (with_reducible exact Below.refl _ _) | (with_reducible exact Below.refl _ _) | (with_reducible refine below_al ?_ _) | (with_reducible refine below_dr ?_ _) | (with_reducible refine below_d1 ?_) | ((with_reducible refine Below.setCell ?_ ?_ _); rotate_left; (next => first | (simp; done) | (simp; omega) | omega)))) hF7)
          replace hR7 := Asd.mk hR7
          have z7 : w4.heap.size + 1 < w7.heap.size := by have := hF7.size; simp at this; omega
          clear hF7
          refine hK.out _ _ (fun _ => ⟨t0, t1, t2, t3, t4⟩) ?_
          clear hK K
          (try simp only [Act.put, List.setIfInBounds_toArray, List.set_cons_zero, List.set_cons_succ])
          have hH : w7.cell? ⟨w4.heap.size + 1, 0, none⟩ = some (.slice A' ((putTo L0 a 0 n k).length) c') ∧ w7.cell? ⟨w4.heap.size, 0, none⟩ = some (.slice (some ad) L0.length Co) ∧ w7.cell? (ad.add (k * 3)) = some (.string L0[k].Name) ∧ w7.cell? ⟨(ad.add (k * 3)).block, (ad.add (k * 3)).off + 1, none⟩ = some (.int .i64 L0[k].Action.Cost) ∧ w7.cell? ⟨(ad.add (k * 3)).block, (ad.add (k * 3)).off + 2, none⟩ = some (.slice B2 L0[k].Action.Steps.length d2) := ⟨t0, t1, t2, t3, t4⟩
          ((refine wpG_take (i := 9) (v := ?_) rfl rfl (by kernel_rfl) (by kernel_rfl) (by kernel_rfl) (by kernel_rfl) (fun _ _ _ h => h) (Or.inl ⟨by rfl, ?_⟩) (by assumption) ?_; rotate_left; (next => ((intro X hX; (try dsimp only at hX); go_simp); try with_reducible rfl))); (try simp only [Act.put, List.setIfInBounds_toArray, List.set_cons_zero, List.set_cons_succ]))
          (refine wpG_one (i := 10) (by kernel_rfl) rfl (fun K hK => ?_))
          go_simp
          refine hK.out _ _ (fun h => absurd rfl h) ?_
          clear hK K hH
          refine wpG_done (by kernel_rfl) ?_ _
          go_wp2
          go_roundw
          case rel => exact ⟨k + 1, .slice A7 ((putTo L0 a 0 n k).length + 1) c7', by omega, by go_num, by simp; omega, by go_simp, by go_simp, by rw [E2_.out, E3_.out, List.length_append]; exact hR7.out.set (by simp; omega) _, m7.out⟩
          case measure => simp [intOf]; omega
        · have hd : decide (a < k) = false := by simp; omega
          have hb1 : Op.bytesLess n.Name.toList L0[k].Name.toList = true := by rw [show Op.bytesLess n.Name.toList L0[k].Name.toList = ltS n.Name L0[k].Name from rfl, hdf1]; simp; omega
          have hb2 : Op.bytesLess L0[k].Name.toList n.Name.toList = false := ltS_asymm (a := n.Name) (b := L0[k].Name) hb1
          have hb3 : (L0[k].Name.toList == n.Name.toList) = false := Bool.eq_false_iff.2 (fun h => hne ((ba_eq _ _).1 h))
          replace hne := Asd.mk hne
          replace hdf1 := Asd.mk hdf1
          have E2_ := Asd.mk (show putTo L0 a 0 n (k + 1) = (putTo L0 a 0 n k ++ [n]) ++ [L0[k]] by subst hka; exact putTo_at0 hlt)
          have E3_ := Asd.mk (show vlTo vs0 [.string n.Name, .int .i64 n.Action.Cost, .slice D2 n.Action.Steps.length d3] a (k + 1) = (vlTo vs0 [.string n.Name, .int .i64 n.Action.Cost, .slice D2 n.Action.Steps.length d3] a k ++ [.string n.Name, .int .i64 n.Action.Cost, .slice D2 n.Action.Steps.length d3]) ++ [.string L0[k].Name, .int .i64 L0[k].Action.Cost, .slice B2 L0[k].Action.Steps.length d2] by subst hka; exact vlTo_at hdr.out rfl hkl)
          have hka' : a < k + 1 := by omega
          replace hka := Asd.mk hka
          rw [hd]
          go_wp2
          go_quiet (fail)
          go_wp2_with (at_builtin; refine appRow rfl rfl Try.underlying26 info_Node rfl (by decide) rfl (lo := Xo.heap.size) (wr := wr) (by omega) hR.out (by repeat (first | (with_reducible exact Below.refl _ _) | (with_reducible exact Below.refl _ _) | (with_reducible refine below_al ?_ _) | (with_reducible refine below_dr ?_ _) | (with_reducible refine below_d1 ?_) | ((with_reducible refine Below.setCell ?_ ?_ _); rotate_left; (next => first | (simp; done) | (simp; omega) | omega)))) rfl (World.news_of_block (heap_alloc_new _ _)) (by simp) (by simp [Value.oneCell']) (by simp [maxLen]; omega) (by omega) ?_)
          intro v5 w5 hR5 hF5
          have m5 := Asd.mk (fun u => MFr.step (u := u) hm.out (by repeat (first | (with_reducible exact Below.refl _ _) | (with_reducible exact Below.refl _ _) | (with_reducible refine below_al ?_ _) | (with_reducible refine below_dr ?_ _) | (with_reducible refine below_d1 ?_) | ((with_reducible refine Below.setCell ?_ ?_ _); rotate_left; (next => first | (simp; done) | (simp; omega) | omega)))) hF5)
          have t0 := (hF5.cell (b := w4.heap.size + 1) (o := 0) (by first | (simp; done) | (simp; omega)) (.inl (by omega))).trans (cell_below (show Below (wr).heap.size (wr) _ from by repeat (first | (with_reducible exact Below.refl _ _) | (with_reducible exact Below.refl _ _) | (with_reducible refine below_al ?_ _) | (with_reducible refine below_dr ?_ _) | (with_reducible refine below_d1 ?_) | ((with_reducible refine Below.setCell ?_ ?_ _); rotate_left; (next => first | (simp; done) | (simp; omega) | omega)))) bv)
          have tf := (hF5.frozen (b := w4.heap.size + 1) (o := 0) (by first | (simp; done) | (simp; omega)) (.inl (by omega))).trans (((show Below (wr).heap.size (wr) _ from by repeat (first | (with_reducible exact Below.refl _ _) | (with_reducible exact Below.refl _ _) | (with_reducible refine below_al ?_ _) | (with_reducible refine below_dr ?_ _) | (with_reducible refine below_d1 ?_) | ((with_reducible refine Below.setCell ?_ ?_ _); rotate_left; (next => first | (simp; done) | (simp; omega) | omega)))).frozen (p := ⟨w4.heap.size + 1, 0, none⟩) (by simp; omega)).trans fv)
          have z5 : (wr).heap.size < w5.heap.size := by have := hF5.size; simp at this; omega
          have z51 : w4.heap.size + 1 < w5.heap.size := by omega
          have z52 : w4.heap.size < w5.heap.size := by omega
          have s0 := (hF5.cell (b := w4.heap.size) (o := 0) (by first | (simp; done) | (simp; omega)) (.inl (by omega))).trans (cell_below (show Below wr.heap.size wr _ from by repeat (first | (with_reducible exact Below.refl _ _) | (with_reducible exact Below.refl _ _) | (with_reducible refine below_al ?_ _) | (with_reducible refine below_dr ?_ _) | (with_reducible refine below_d1 ?_) | ((with_reducible refine Below.setCell ?_ ?_ _); rotate_left; (next => first | (simp; done) | (simp; omega) | omega)))) q6)
          have s1 := (hF5.cellp (p := ad.add (k * 3)) (by first | (simp; done) | (simp; omega)) (.inl (by omega))).trans (cell_below (show Below wr.heap.size wr _ from by repeat (first | (with_reducible exact Below.refl _ _) | (with_reducible exact Below.refl _ _) | (with_reducible refine below_al ?_ _) | (with_reducible refine below_dr ?_ _) | (with_reducible refine below_d1 ?_) | ((with_reducible refine Below.setCell ?_ ?_ _); rotate_left; (next => first | (simp; done) | (simp; omega) | omega)))) k0)
          have s2 := (hF5.cell (b := (ad.add (k * 3)).block) (o := (ad.add (k * 3)).off + 1) (by first | (simp; done) | (simp; omega)) (.inl (by omega))).trans (cell_below (show Below wr.heap.size wr _ from by repeat (first | (with_reducible exact Below.refl _ _) | (with_reducible exact Below.refl _ _) | (with_reducible refine below_al ?_ _) | (with_reducible refine below_dr ?_ _) | (with_reducible refine below_d1 ?_) | ((with_reducible refine Below.setCell ?_ ?_ _); rotate_left; (next => first | (simp; done) | (simp; omega) | omega)))) k1)
          have s3 := (hF5.cell (b := (ad.add (k * 3)).block) (o := (ad.add (k * 3)).off + 2) (by first | (simp; done) | (simp; omega)) (.inl (by omega))).trans (cell_below (show Below wr.heap.size wr _ from by repeat (first | (with_reducible exact Below.refl _ _) | (with_reducible exact Below.refl _ _) | (with_reducible refine below_al ?_ _) | (with_reducible refine below_dr ?_ _) | (with_reducible refine below_d1 ?_) | ((with_reducible refine Below.setCell ?_ ?_ _); rotate_left; (next => first | (simp; done) | (simp; omega) | omega)))) k2)
          clear bv q6 k0 k1 k2 fv r0 r1 r2 rn hR hm
          obtain ⟨A', c', rfl, _⟩ := hR5.slice
          replace m5 := Asd.mk (m5.out (.slice A' ((putTo L0 a 0 n k).length + 1) c'))
          replace hR5 := Asd.mk (hR5.set (p := ⟨w4.heap.size + 1, 0, none⟩) (by simp; omega) (.slice A' ((putTo L0 a 0 n k).length + 1) c'))
          have wg : (ad.add (k * 3)).block < w5.heap.size := by omega
          clear hF5
          go_wp2
          generalize hX : w5.setCell _ _ = X
          have bX : X.cell? ⟨w4.heap.size + 1, 0, none⟩ = some (.slice A' ((putTo L0 a 0 n k).length + 1) c') := by subst hX; go_simp
          have qX : X.cell? ⟨w4.heap.size, 0, none⟩ = some (.slice (some ad) L0.length Co) := by subst hX; go_simp
          have x0 : X.cell? (ad.add (k * 3)) = some (.string L0[k].Name) := by subst hX; exact (World.cell?_of_block (Below.heap_setCell _ _ _ _ (by simp; omega))).trans s1
          have x1 : X.cell? ⟨(ad.add (k * 3)).block, (ad.add (k * 3)).off + 1, none⟩ = some (.int .i64 L0[k].Action.Cost) := by subst hX; exact (World.cell?_of_block (Below.heap_setCell _ _ _ _ (by simp; omega))).trans s2
          have x2 : X.cell? ⟨(ad.add (k * 3)).block, (ad.add (k * 3)).off + 2, none⟩ = some (.slice B2 L0[k].Action.Steps.length d2) := by subst hX; exact (World.cell?_of_block (Below.heap_setCell _ _ _ _ (by simp; omega))).trans s3
          have fX : X.frozen? ⟨w4.heap.size + 1, 0, none⟩ = false := by subst hX; go_simp
          have sX := show X.heap.size = w5.heap.size by rw [← hX]; simp
          have hRX := hX ▸ hR5
          have hmX := hX ▸ m5
          have sX2 : Xo.heap.size ≤ X.heap.size := by omega
          have wX0 : w4.heap.size < X.heap.size := by omega
          have wX1 : w4.heap.size + 1 < X.heap.size := by omega
          have wX2 : (ad.add (k * 3)).block < X.heap.size := by omega
          clear hX sX s0 s1 s2 s3 t0 tf hR5 m5
          refine wp_region_G (last := 10) (S := fun Z => Z.cell? ⟨w4.heap.size + 1, 0, none⟩ = some (.slice A' ((putTo L0 a 0 n k).length + 1) c') ∧ Z.cell? ⟨w4.heap.size, 0, none⟩ = some (.slice (some ad) L0.length Co) ∧ Z.cell? (ad.add (k * 3)) = some (.string L0[k].Name) ∧ Z.cell? ⟨(ad.add (k * 3)).block, (ad.add (k * 3)).off + 1, none⟩ = some (.int .i64 L0[k].Action.Cost) ∧ Z.cell? ⟨(ad.add (k * 3)).block, (ad.add (k * 3)).off + 2, none⟩ = some (.slice B2 L0[k].Action.Steps.length d2)) (by kernel_rfl) ?_
          have hH : (X).drew.cell? ⟨w4.heap.size + 1, 0, none⟩ = some (.slice A' ((putTo L0 a 0 n k).length + 1) c') ∧ (X).drew.cell? ⟨w4.heap.size, 0, none⟩ = some (.slice (some ad) L0.length Co) ∧ (X).drew.cell? (ad.add (k * 3)) = some (.string L0[k].Name) ∧ (X).drew.cell? ⟨(ad.add (k * 3)).block, (ad.add (k * 3)).off + 1, none⟩ = some (.int .i64 L0[k].Action.Cost) ∧ (X).drew.cell? ⟨(ad.add (k * 3)).block, (ad.add (k * 3)).off + 2, none⟩ = some (.slice B2 L0[k].Action.Steps.length d2) := ⟨bX, qX, x0, x1, x2⟩
          ((refine wpG_take (i := 0) (v := ?_) rfl rfl (by kernel_rfl) (by kernel_rfl) (by kernel_rfl) (by kernel_rfl) (fun _ _ _ h => h) (Or.inl ⟨by rfl, ?_⟩) (by assumption) ?_; rotate_left; (next => ((intro X hX; (try dsimp only at hX); go_simp); try with_reducible rfl))); (try simp only [Act.put, List.setIfInBounds_toArray, List.set_cons_zero, List.set_cons_succ]); (refine wpG_take (i := 1) (v := ?_) rfl rfl (by kernel_rfl) (by kernel_rfl) (by kernel_rfl) (by kernel_rfl) (fun _ _ _ h => h) (Or.inl ⟨by rfl, ?_⟩) (by assumption) ?_; rotate_left; (next => ((intro X hX; (try dsimp only at hX); go_simp); try with_reducible rfl))); (try simp only [Act.put, List.setIfInBounds_toArray, List.set_cons_zero, List.set_cons_succ]); (refine wpG_take (i := 2) (v := ?_) rfl rfl (by kernel_rfl) (by kernel_rfl) (by kernel_rfl) (by kernel_rfl) (fun _ _ _ h => h) (Or.inl ⟨by rfl, ?_⟩) (by assumption) ?_; rotate_left; (next => ((intro X hX; (try dsimp only at hX); go_simp); try with_reducible rfl))); (try simp only [Act.put, List.setIfInBounds_toArray, List.set_cons_zero, List.set_cons_succ]); (refine wpG_take (i := 3) (v := ?_) rfl rfl (by kernel_rfl) (by kernel_rfl) (by kernel_rfl) (by kernel_rfl) (fun _ _ _ h => h) (Or.inl ⟨by rfl, ?_⟩) (by assumption) ?_; rotate_left; (next => ((intro X hX; (try dsimp only at hX); go_simp); try with_reducible rfl))); (try simp only [Act.put, List.setIfInBounds_toArray, List.set_cons_zero, List.set_cons_succ]); (refine wpG_take (i := 4) (v := ?_) rfl rfl (by kernel_rfl) (by kernel_rfl) (by kernel_rfl) (by kernel_rfl) (fun _ _ _ h => h) (Or.inl ⟨by rfl, ?_⟩) (by assumption) ?_; rotate_left; (next => ((intro X hX; (try dsimp only at hX); go_simp); try with_reducible rfl))); (try simp only [Act.put, List.setIfInBounds_toArray, List.set_cons_zero, List.set_cons_succ]); (refine wpG_take (i := 5) (v := ?_) rfl rfl (by kernel_rfl) (by kernel_rfl) (by kernel_rfl) (by kernel_rfl) (fun _ _ _ h => h) (Or.inl ⟨by rfl, ?_⟩) (by assumption) ?_; rotate_left; (next => ((intro X hX; (try dsimp only at hX); go_simp); try with_reducible rfl))); (try simp only [Act.put, List.setIfInBounds_toArray, List.set_cons_zero, List.set_cons_succ]); (refine wpG_take (i := 6) (v := ?_) rfl rfl (by kernel_rfl) (by kernel_rfl) (by kernel_rfl) (by kernel_rfl) (fun _ _ _ h => h) (Or.inl ⟨by rfl, ?_⟩) (by assumption) ?_; rotate_left; (next => ((intro X hX; (try dsimp only at hX); go_simp); try with_reducible rfl))); (try simp only [Act.put, List.setIfInBounds_toArray, List.set_cons_zero, List.set_cons_succ]))
          (refine wpG_one (i := 7) (by kernel_rfl) rfl (fun K hK => ?_))
          go_simp
          refine hK.out _ _ (fun _ => ⟨by go_simp, by go_simp, by go_simp, by go_simp, by go_simp⟩) ?_
          clear hK K hH
          (try simp only [Act.put, List.setIfInBounds_toArray, List.set_cons_zero, List.set_cons_succ])
          (refine wpG_one (i := 8) (by kernel_rfl) rfl (fun K hK => ?_))
          refine step_appRow (by rfl) (by rfl) Try.underlying26 info_Node rfl (by decide) (by rfl) (lo := Xo.heap.size) (wr := X) (by omega) hRX.out (by repeat (first | (with_reducible exact Below.refl _ _) | (with_reducible exact Below.refl _ _) | (with_reducible refine below_al ?_ _) | (with_reducible refine below_dr ?_ _) | (with_reducible refine below_d1 ?_) | ((with_reducible refine Below.setCell ?_ ?_ _); rotate_left; (next => first | (simp; done) | (simp; omega) | omega)))) (by rfl) (World.news_of_block (heap_alloc_new _ _)) (by simp) (by simp [Value.oneCell']) (by simp [maxLen]; omega) (by omega) ?_
          intro v7 w7 hR7 hF7
          have t0 := (hF7.cell (b := w4.heap.size + 1) (o := 0) (by first | (simp; done) | (simp; omega)) (.inl (by omega))).trans (by go_simp : _ = some (.slice A' ((putTo L0 a 0 n k).length + 1) c'))
          have t1 := (hF7.cell (b := w4.heap.size) (o := 0) (by first | (simp; done) | (simp; omega)) (.inl (by omega))).trans (by go_simp : _ = some (.slice (some ad) L0.length Co))
          have t2 := (hF7.cellp (p := ad.add (k * 3)) (by first | (simp; done) | (simp; omega)) (.inl (by omega))).trans (by go_simp : _ = some (.string L0[k].Name))
          have t3 := (hF7.cell (b := (ad.add (k * 3)).block) (o := (ad.add (k * 3)).off + 1) (by first | (simp; done) | (simp; omega)) (.inl (by omega))).trans (by go_simp : _ = some (.int .i64 L0[k].Action.Cost))
          have t4 := (hF7.cell (b := (ad.add (k * 3)).block) (o := (ad.add (k * 3)).off + 2) (by first | (simp; done) | (simp; omega)) (.inl (by omega))).trans (by go_simp : _ = some (.slice B2 L0[k].Action.Steps.length d2))
          have tf := (hF7.frozen (b := w4.heap.size + 1) (o := 0) (by first | (simp; done) | (simp; omega)) (.inl (by omega))).trans (((show Below (X).heap.size (X) _ from by repeat (first | (with_reducible exact Below.refl _ _) | (with_reducible exact Below.refl _ _) | (with_reducible refine below_al ?_ _) | (with_reducible refine below_dr ?_ _) | (with_reducible refine below_d1 ?_) | ((with_reducible refine Below.setCell ?_ ?_ _); rotate_left; (next => first | (simp; done) | (simp; omega) | omega)))).frozen (p := ⟨w4.heap.size + 1, 0, none⟩) (by simp; omega)).trans fX)
          obtain ⟨A7, c7', rfl, _⟩ := hR7.slice
          have m7 := Asd.mk (MFr.step (u := .slice A7 (((putTo L0 a 0 n k).length + 1) + 1) c7') hmX.out (by repeat (first | (with_reducible exact Below.refl _ _) | (with_reducible exact Below.refl _ _) | (with_reducible refine below_al ?_ _) | (with_reducible refine below_dr ?_ _) | (with_reducible refine below_d1 ?_) | ((with_reducible refine Below.setCell ?_ ?_ _); rotate_left; (next => first | (simp; done) | (simp; omega) | omega)))) hF7)
          replace hR7 := Asd.mk hR7
          have z7 : w4.heap.size + 1 < w7.heap.size := by have := hF7.size; simp at this; omega
          clear hF7
          refine hK.out _ _ (fun _ => ⟨t0, t1, t2, t3, t4⟩) ?_
          clear hK K
          (try simp only [Act.put, List.setIfInBounds_toArray, List.set_cons_zero, List.set_cons_succ])
          have hH : w7.cell? ⟨w4.heap.size + 1, 0, none⟩ = some (.slice A' ((putTo L0 a 0 n k).length + 1) c') ∧ w7.cell? ⟨w4.heap.size, 0, none⟩ = some (.slice (some ad) L0.length Co) ∧ w7.cell? (ad.add (k * 3)) = some (.string L0[k].Name) ∧ w7.cell? ⟨(ad.add (k * 3)).block, (ad.add (k * 3)).off + 1, none⟩ = some (.int .i64 L0[k].Action.Cost) ∧ w7.cell? ⟨(ad.add (k * 3)).block, (ad.add (k * 3)).off + 2, none⟩ = some (.slice B2 L0[k].Action.Steps.length d2) := ⟨t0, t1, t2, t3, t4⟩
          ((refine wpG_take (i := 9) (v := ?_) rfl rfl (by kernel_rfl) (by kernel_rfl) (by kernel_rfl) (by kernel_rfl) (fun _ _ _ h => h) (Or.inl ⟨by rfl, ?_⟩) (by assumption) ?_; rotate_left; (next => ((intro X hX; (try dsimp only at hX); go_simp); try with_reducible rfl))); (try simp only [Act.put, List.setIfInBounds_toArray, List.set_cons_zero, List.set_cons_succ]))
          (refine wpG_one (i := 10) (by kernel_rfl) rfl (fun K hK => ?_))
          go_simp
          refine hK.out _ _ (fun h => absurd rfl h) ?_
          clear hK K hH
          refine wpG_done (by kernel_rfl) ?_ _
          go_wp2
          go_roundw
          case rel => exact ⟨k + 1, .slice A7 ((putTo L0 a 0 n k).length + 1 + 1) c7', by omega, by go_num, by simp; omega, by go_simp, by go_simp, by rw [E2_.out, E3_.out, List.length_append, List.length_append]; exact hR7.out.set (by simp; omega) _, m7.out⟩
          case measure => simp [intOf]; omega
        · have hd : decide (a < k) = true := by simp; omega
          replace hne := Asd.mk hne
          replace hdf1 := Asd.mk hdf1
          have E2_ := Asd.mk (putTo_gt (n := n) hlt hka (Nat.zero_le 1))
          have E3_ := Asd.mk (vlTo_gt (os := [.string n.Name, .int .i64 n.Action.Cost, .slice D2 n.Action.Steps.length d3]) hdr.out rfl hkl hka)
          rw [hd]
          go_wp2
          go_quiet (fail)
          go_wp2
          generalize hX : wr.drewN _ = X
          have hXb := Asd.mk (show Below wr.heap.size wr X from hX ▸ below_dr (Below.refl _ _) _)
          have sX : X.heap.size = wr.heap.size := by rw [← hX]; rfl
          have bX := cell_below hXb.out bv
          have qX := cell_below hXb.out q6
          have x0 := cell_below hXb.out k0
          have x1 := cell_below hXb.out k1
          have x2 := cell_below hXb.out k2
          have fX := (hXb.out.frozen (p := ⟨w4.heap.size + 1, 0, none⟩) zw).trans fv
          have hRX := Asd.mk (hR.out.below hXb.out)
          have hmX := Asd.mk (hm.out.trans (MFr.of_below hXb.out))
          have sX2 : Xo.heap.size ≤ X.heap.size := by omega
          have wX0 : w4.heap.size < X.heap.size := by omega
          have wX1 : w4.heap.size + 1 < X.heap.size := by omega
          have wX2 : (ad.add (k * 3)).block < X.heap.size := by omega
          clear hX bv q6 k0 k1 k2 fv hR hm hXb sX
          refine wp_region_G (last := 10) (S := fun Z => Z.cell? ⟨w4.heap.size + 1, 0, none⟩ = some (.slice A' ((putTo L0 a 0 n k).length) c') ∧ Z.cell? ⟨w4.heap.size, 0, none⟩ = some (.slice (some ad) L0.length Co) ∧ Z.cell? (ad.add (k * 3)) = some (.string L0[k].Name) ∧ Z.cell? ⟨(ad.add (k * 3)).block, (ad.add (k * 3)).off + 1, none⟩ = some (.int .i64 L0[k].Action.Cost) ∧ Z.cell? ⟨(ad.add (k * 3)).block, (ad.add (k * 3)).off + 2, none⟩ = some (.slice B2 L0[k].Action.Steps.length d2)) (by kernel_rfl) ?_
          have hH : (X).drew.cell? ⟨w4.heap.size + 1, 0, none⟩ = some (.slice A' ((putTo L0 a 0 n k).length) c') ∧ (X).drew.cell? ⟨w4.heap.size, 0, none⟩ = some (.slice (some ad) L0.length Co) ∧ (X).drew.cell? (ad.add (k * 3)) = some (.string L0[k].Name) ∧ (X).drew.cell? ⟨(ad.add (k * 3)).block, (ad.add (k * 3)).off + 1, none⟩ = some (.int .i64 L0[k].Action.Cost) ∧ (X).drew.cell? ⟨(ad.add (k * 3)).block, (ad.add (k * 3)).off + 2, none⟩ = some (.slice B2 L0[k].Action.Steps.length d2) := ⟨bX, qX, x0, x1, x2⟩
          ((refine wpG_take (i := 0) (v := ?_) rfl rfl (by kernel_rfl) (by kernel_rfl) (by kernel_rfl) (by kernel_rfl) (fun _ _ _ h => h) (Or.inl ⟨by rfl, ?_⟩) (by assumption) ?_; rotate_left; (next => ((intro X hX; (try dsimp only at hX); go_simp); try with_reducible rfl))); (try simp only [Act.put, List.setIfInBounds_toArray, List.set_cons_zero, List.set_cons_succ]); (refine wpG_take (i := 1) (v := ?_) rfl rfl (by kernel_rfl) (by kernel_rfl) (by kernel_rfl) (by kernel_rfl) (fun _ _ _ h => h) (Or.inl ⟨by rfl, ?_⟩) (by assumption) ?_; rotate_left; (next => ((intro X hX; (try dsimp only at hX); go_simp); try with_reducible rfl))); (try simp only [Act.put, List.setIfInBounds_toArray, List.set_cons_zero, List.set_cons_succ]); (refine wpG_take (i := 2) (v := ?_) rfl rfl (by kernel_rfl) (by kernel_rfl) (by kernel_rfl) (by kernel_rfl) (fun _ _ _ h => h) (Or.inl ⟨by rfl, ?_⟩) (by assumption) ?_; rotate_left; (next => ((intro X hX; (try dsimp only at hX); go_simp); try with_reducible rfl))); (try simp only [Act.put, List.setIfInBounds_toArray, List.set_cons_zero, List.set_cons_succ]); (refine wpG_take (i := 3) (v := ?_) rfl rfl (by kernel_rfl) (by kernel_rfl) (by kernel_rfl) (by kernel_rfl) (fun _ _ _ h => h) (Or.inl ⟨by rfl, ?_⟩) (by assumption) ?_; rotate_left; (next => ((intro X hX; (try dsimp only at hX); go_simp); try with_reducible rfl))); (try simp only [Act.put, List.setIfInBounds_toArray, List.set_cons_zero, List.set_cons_succ]); (refine wpG_take (i := 4) (v := ?_) rfl rfl (by kernel_rfl) (by kernel_rfl) (by kernel_rfl) (by kernel_rfl) (fun _ _ _ h => h) (Or.inl ⟨by rfl, ?_⟩) (by assumption) ?_; rotate_left; (next => ((intro X hX; (try dsimp only at hX); go_simp); try with_reducible rfl))); (try simp only [Act.put, List.setIfInBounds_toArray, List.set_cons_zero, List.set_cons_succ]); (refine wpG_take (i := 5) (v := ?_) rfl rfl (by kernel_rfl) (by kernel_rfl) (by kernel_rfl) (by kernel_rfl) (fun _ _ _ h => h) (Or.inl ⟨by rfl, ?_⟩) (by assumption) ?_; rotate_left; (next => ((intro X hX; (try dsimp only at hX); go_simp); try with_reducible rfl))); (try simp only [Act.put, List.setIfInBounds_toArray, List.set_cons_zero, List.set_cons_succ]); (refine wpG_take (i := 6) (v := ?_) rfl rfl (by kernel_rfl) (by kernel_rfl) (by kernel_rfl) (by kernel_rfl) (fun _ _ _ h => h) (Or.inl ⟨by rfl, ?_⟩) (by assumption) ?_; rotate_left; (next => ((intro X hX; (try dsimp only at hX); go_simp); try with_reducible rfl))); (try simp only [Act.put, List.setIfInBounds_toArray, List.set_cons_zero, List.set_cons_succ]))
          (refine wpG_one (i := 7) (by kernel_rfl) rfl (fun K hK => ?_))
          go_simp
          refine hK.out _ _ (fun _ => ⟨by go_simp, by go_simp, by go_simp, by go_simp, by go_simp⟩) ?_
          clear hK K hH
          (try simp only [Act.put, List.setIfInBounds_toArray, List.set_cons_zero, List.set_cons_succ])
          (refine wpG_one (i := 8) (by kernel_rfl) rfl (fun K hK => ?_))
          refine step_appRow (by rfl) (by rfl) Try.underlying26 info_Node rfl (by decide) (by rfl) (lo := Xo.heap.size) (wr := X) (by omega) hRX.out (by repeat (first | (with_reducible exact Below.refl _ _) | (with_reducible exact Below.refl _ _) | (with_reducible refine below_al ?_ _) | (with_reducible refine below_dr ?_ _) | (with_reducible refine below_d1 ?_) | ((with_reducible refine Below.setCell ?_ ?_ _); rotate_left; (next => first | (simp; done) | (simp; omega) | omega)))) (by rfl) (World.news_of_block (heap_alloc_new _ _)) (by simp) (by simp [Value.oneCell']) (by simp [maxLen]; omega) (by omega) ?_
          intro v7 w7 hR7 hF7
          have t0 := (hF7.cell (b := w4.heap.size + 1) (o := 0) (by first | (simp; done) | (simp; omega)) (.inl (by omega))).trans (by go_simp : _ = some (.slice A' ((putTo L0 a 0 n k).length) c'))
          have t1 := (hF7.cell (b := w4.heap.size) (o := 0) (by first | (simp; done) | (simp; omega)) (.inl (by omega))).trans (by go_simp : _ = some (.slice (some ad) L0.length Co))
          have t2 := (hF7.cellp (p := ad.add (k * 3)) (by first | (simp; done) | (simp; omega)) (.inl (by omega))).trans (by go_simp : _ = some (.string L0[k].Name))
          have t3 := (hF7.cell (b := (ad.add (k * 3)).block) (o := (ad.add (k * 3)).off + 1) (by first | (simp; done) | (simp; omega)) (.inl (by omega))).trans (by go_simp : _ = some (.int .i64 L0[k].Action.Cost))
          have t4 := (hF7.cell (b := (ad.add (k * 3)).block) (o := (ad.add (k * 3)).off + 2) (by first | (simp; done) | (simp; omega)) (.inl (by omega))).trans (by go_simp : _ = some (.slice B2 L0[k].Action.Steps.length d2))
          have tf := (hF7.frozen (b := w4.heap.size + 1) (o := 0) (by first | (simp; done) | (simp; omega)) (.inl (by omega))).trans (((show Below (X).heap.size (X) _ from by repeat (first | (with_reducible exact Below.refl _ _) | (with_reducible exact Below.refl _ _) | (with_reducible refine below_al ?_ _) | (with_reducible refine below_dr ?_ _) | (with_reducible refine below_d1 ?_) | ((with_reducible refine Below.setCell ?_ ?_ _); rotate_left; (next => first | (simp; done) | (simp; omega) | omega)))).frozen (p := ⟨w4.heap.size + 1, 0, none⟩) (by simp; omega)).trans fX)
          obtain ⟨A7, c7', rfl, _⟩ := hR7.slice
          have m7 := Asd.mk (MFr.step (u := .slice A7 (((putTo L0 a 0 n k).length) + 1) c7') hmX.out (by repeat (first | (with_reducible exact Below.refl _ _) | (with_reducible exact Below.refl _ _) | (with_reducible refine below_al ?_ _) | (with_reducible refine below_dr ?_ _) | (with_reducible refine below_d1 ?_) | ((with_reducible refine Below.setCell ?_ ?_ _); rotate_left; (next => first | (simp; done) | (simp; omega) | omega)))) hF7)
          replace hR7 := Asd.mk hR7
          have z7 : w4.heap.size + 1 < w7.heap.size := by have := hF7.size; simp at this; omega
          clear hF7
          refine hK.out _ _ (fun _ => ⟨t0, t1, t2, t3, t4⟩) ?_
          clear hK K
          (try simp only [Act.put, List.setIfInBounds_toArray, List.set_cons_zero, List.set_cons_succ])
          have hH : w7.cell? ⟨w4.heap.size + 1, 0, none⟩ = some (.slice A' ((putTo L0 a 0 n k).length) c') ∧ w7.cell? ⟨w4.heap.size, 0, none⟩ = some (.slice (some ad) L0.length Co) ∧ w7.cell? (ad.add (k * 3)) = some (.string L0[k].Name) ∧ w7.cell? ⟨(ad.add (k * 3)).block, (ad.add (k * 3)).off + 1, none⟩ = some (.int .i64 L0[k].Action.Cost) ∧ w7.cell? ⟨(ad.add (k * 3)).block, (ad.add (k * 3)).off + 2, none⟩ = some (.slice B2 L0[k].Action.Steps.length d2) := ⟨t0, t1, t2, t3, t4⟩
          ((refine wpG_take (i := 9) (v := ?_) rfl rfl (by kernel_rfl) (by kernel_rfl) (by kernel_rfl) (by kernel_rfl) (fun _ _ _ h => h) (Or.inl ⟨by rfl, ?_⟩) (by assumption) ?_; rotate_left; (next => ((intro X hX; (try dsimp only at hX); go_simp); try with_reducible rfl))); (try simp only [Act.put, List.setIfInBounds_toArray, List.set_cons_zero, List.set_cons_succ]))
          (refine wpG_one (i := 10) (by kernel_rfl) rfl (fun K hK => ?_))
          go_simp
          refine hK.out _ _ (fun h => absurd rfl h) ?_
          clear hK K hH
          refine wpG_done (by kernel_rfl) ?_ _
          go_wp2
          go_roundw
          case rel => exact ⟨k + 1, .slice A7 ((putTo L0 a 0 n k).length + 1) c7', by omega, by go_num, by simp; omega, by go_simp, by go_simp, by rw [E2_.out, E3_.out, List.length_append]; exact hR7.out.set (by simp; omega) _, m7.out⟩
          case measure => simp [intOf]; omega
      · obtain rfl : k = L0.length := by omega
        have v4 := (hm.cell (b := w.heap.size + 1 + 1) (o := 0) (by omega) (by simp; omega)).trans (cell_below hO1.out b4)
        have g4 := (hm.frozen (b := w.heap.size + 1 + 1) (o := 0) (by omega) (by simp; omega)).trans ((hO1.out.frozen (p := ⟨w.heap.size + 1 + 1, 0, none⟩) (by simp; omega)).trans f4)
        by_cases hal : a < L0.length
        · have hd : decide (a < L0.length) = true := by simp; omega
          have hr : RowSt Xo.heap.size wr 46 3 (L0.length + 1) (vs0.take (a * 3) ++ ([.string n.Name, .int .i64 n.Action.Cost, .slice D2 n.Action.Steps.length d3] ++ vs0.drop (a * 3))) (.slice A' (putTo L0 a 0 n L0.length).length c') := by
            have h := hR
            rw [vlTo_end hvl.out hal] at h
            rw [show L0.length + 1 = (putTo L0 a 0 n L0.length).length by rw [putTo_end hal]; unfold putAll; simp; omega]
            exact h
          replace hr := Asd.mk hr
          replace hm := Asd.mk hm
          replace hR := Asd.mk hR
          have hrm := Asd.mk hm.out.block
          have hrb := Asd.mk (hm.out.below (lo := w.heap.size) (by omega) (fun b hb => by simp at hb; omega))
          rw [hd]
          go_wp2
          have hr := hr.out
          have hrm := hrm.out
          have hrb := hrb.out
          refine bodyPost_ret (v := .tuple #[.agg #[.slice A' ((putTo L0 a 0 n L0.length).length) c'], .int .i64 0]) (by simp [results, Try.results15, go_sem, *]) rfl ?_
          rw [e1.out, ← hpd.out]
          obtain ⟨Go, ho1, ho2, ho3⟩ := hO4.out
          have hGt := hGt.out
          have hGl := hGl.out
          have hbg : ∀ b ∈ G ++ Go, w.heap.size + 1 + 1 + 1 ≤ b ∧ b < Xo.heap.size ∧ b ≠ w4.heap.size + 1 := by
            intro b hb
            rcases List.mem_append.1 hb with h | h
            · have := hGt b h; have := hGl b h; omega
            · have := ho3 b h; have := ho1.lt b h; omega
          have hfin := own_put (W := Xo) (X := wr) (W0 := ((w.alloc (.cells #[.int .i64 0] 0)).alloc (.cells #[.int .i64 0] 0)).alloc (.cells #[.int .i64 0] 0)) (hvs.out.move (fun b hb => (hO1.out.block b (by have := hGt b hb; omega)).trans (HX4.out.block b (hGt b hb)))) hG.out ho1 ho2 (fun b hb hb' => by have := hGt b hb; have := ho3 b hb'; omega) (fun b hb => hrm b (hbg b hb).2.1 (by have := (hbg b hb).2.2; simp; omega)) (fun b hb => (hbg b hb).2.1) hae hr (fun b hb => by have := (hbg b hb).1; simp; omega) (by simp; omega)
          obtain ⟨F9, o9, n9, l9⟩ := hfin
          have hbw := Asd.mk (show Below w.heap.size w wr from (below_st HX.out hO1.out).trans (hrb))
          exact ⟨_, rfl, ⟨F9, o9.set (p := ⟨w.heap.size + 1 + 1, 0, none⟩) (fun hk => by have := l9 _ hk; simp at this; omega) _, n9, fun k hk => by have := l9 k hk; simp at this; omega⟩, by repeat (first | (with_reducible exact Below.refl _ _) | (with_reducible exact hbw.out) | (with_reducible refine below_al ?_ _) | (with_reducible refine below_dr ?_ _) | (with_reducible refine below_d1 ?_) | ((with_reducible refine Below.setCell ?_ ?_ _); rotate_left; (next => first | (simp; done) | (simp; omega) | omega)))⟩
        · have hd : decide (a < L0.length) = false := by simp; omega
          have haL : a = L0.length := by omega
          have hlp : (putTo L0 a 0 n L0.length).length = L0.length := by rw [haL]; unfold putTo; rw [if_pos (Nat.le_refl _)]; simp
          replace hlp := Asd.mk hlp
          replace haL := Asd.mk haL
          replace hR := Asd.mk hR
          replace hm := Asd.mk hm
          rw [hd]
          go_wp2_with (at_builtin; refine appRow rfl rfl Try.underlying26 info_Node rfl (by decide) rfl (lo := Xo.heap.size) (wr := wr) (by omega) hR.out (by repeat (first | (with_reducible exact Below.refl _ _) | (with_reducible exact Below.refl _ _) | (with_reducible refine below_al ?_ _) | (with_reducible refine below_dr ?_ _) | (with_reducible refine below_d1 ?_) | ((with_reducible refine Below.setCell ?_ ?_ _); rotate_left; (next => first | (simp; done) | (simp; omega) | omega)))) rfl (World.news_of_block (heap_alloc_new _ _)) (by simp) (by simp [Value.oneCell']) (by simp [maxLen]; omega) (by omega) ?_)
          intro v5 w5 hR5 hF5
          have m5 := Asd.mk (fun u => MFr.step (u := u) hm.out (by repeat (first | (with_reducible exact Below.refl _ _) | (with_reducible exact Below.refl _ _) | (with_reducible refine below_al ?_ _) | (with_reducible refine below_dr ?_ _) | (with_reducible refine below_d1 ?_) | ((with_reducible refine Below.setCell ?_ ?_ _); rotate_left; (next => first | (simp; done) | (simp; omega) | omega)))) hF5)
          have t0 := (hF5.cell (b := w4.heap.size + 1) (o := 0) (by first | (simp; done) | (simp; omega)) (.inl (by omega))).trans (cell_below (show Below (wr).heap.size (wr) _ from by repeat (first | (with_reducible exact Below.refl _ _) | (with_reducible exact Below.refl _ _) | (with_reducible refine below_al ?_ _) | (with_reducible refine below_dr ?_ _) | (with_reducible refine below_d1 ?_) | ((with_reducible refine Below.setCell ?_ ?_ _); rotate_left; (next => first | (simp; done) | (simp; omega) | omega)))) bv)
          have tf := (hF5.frozen (b := w4.heap.size + 1) (o := 0) (by first | (simp; done) | (simp; omega)) (.inl (by omega))).trans (((show Below (wr).heap.size (wr) _ from by repeat (first | (with_reducible exact Below.refl _ _) | (with_reducible exact Below.refl _ _) | (with_reducible refine below_al ?_ _) | (with_reducible refine below_dr ?_ _) | (with_reducible refine below_d1 ?_) | ((with_reducible refine Below.setCell ?_ ?_ _); rotate_left; (next => first | (simp; done) | (simp; omega) | omega)))).frozen (p := ⟨w4.heap.size + 1, 0, none⟩) (by simp; omega)).trans fv)
          have z5 : (wr).heap.size < w5.heap.size := by have := hF5.size; simp at this; omega
          have z51 : w4.heap.size + 1 < w5.heap.size := by omega
          have z52 : w4.heap.size < w5.heap.size := by omega
          have v5' := (hF5.cell (b := w.heap.size + 1 + 1) (o := 0) (by first | (simp; done) | (simp; omega)) (.inl (by omega))).trans (cell_below (show Below wr.heap.size wr _ from by repeat (first | (with_reducible exact Below.refl _ _) | (with_reducible exact Below.refl _ _) | (with_reducible refine below_al ?_ _) | (with_reducible refine below_dr ?_ _) | (with_reducible refine below_d1 ?_) | ((with_reducible refine Below.setCell ?_ ?_ _); rotate_left; (next => first | (simp; done) | (simp; omega) | omega)))) v4)
          have g5 := (hF5.frozen (b := w.heap.size + 1 + 1) (o := 0) (by first | (simp; done) | (simp; omega)) (.inl (by omega))).trans (((show Below wr.heap.size wr _ from by repeat (first | (with_reducible exact Below.refl _ _) | (with_reducible exact Below.refl _ _) | (with_reducible refine below_al ?_ _) | (with_reducible refine below_dr ?_ _) | (with_reducible refine below_d1 ?_) | ((with_reducible refine Below.setCell ?_ ?_ _); rotate_left; (next => first | (simp; done) | (simp; omega) | omega)))).frozen (p := ⟨w.heap.size + 1 + 1, 0, none⟩) (by simp; omega)).trans g4)
          have z53 : w.heap.size + 1 + 1 < w5.heap.size := by omega
          obtain ⟨A', c', rfl, _⟩ := hR5.slice
          replace m5 := m5.out (.slice A' ((putTo L0 a 0 n L0.length).length + 1) c')
          have hrm := Asd.mk m5.block
          have hrb := Asd.mk (m5.below (lo := w.heap.size) (by omega) (fun b hb => by simp at hb; omega))
          have hr := hR5.set (p := ⟨w4.heap.size + 1, 0, none⟩) (by simp; omega) (.slice A' ((putTo L0 a 0 n L0.length).length + 1) c')
          have e5 : vlTo vs0 [.string n.Name, .int .i64 n.Action.Cost, .slice D2 n.Action.Steps.length d3] a L0.length ++ [.string n.Name, .int .i64 n.Action.Cost, .slice D2 n.Action.Steps.length d3] = vs0.take (a * 3) ++ ([.string n.Name, .int .i64 n.Action.Cost, .slice D2 n.Action.Steps.length d3] ++ vs0.drop (a * 3)) := by rw [haL.out]; exact vlTo_end2 hvl.out
          rw [e5] at hr
          replace hr := Asd.mk (show RowSt Xo.heap.size (w5.setCell ⟨w4.heap.size + 1, 0, none⟩ (.slice A' ((putTo L0 a 0 n L0.length).length + 1) c')) 46 3 (L0.length + 1) (vs0.take (a * 3) ++ ([.string n.Name, .int .i64 n.Action.Cost, .slice D2 n.Action.Steps.length d3] ++ vs0.drop (a * 3))) (.slice A' ((putTo L0 a 0 n L0.length).length + 1) c') by rw [hlp.out] at hr ⊢; exact hr)
          clear bv q6 r0 r1 r2 rn hR hm hF5 hR5 m5 e5 v4 g4
          go_wp2
          have hr := hr.out
          have hrm := hrm.out
          have hrb := hrb.out
          refine bodyPost_ret (v := .tuple #[.agg #[.slice A' ((putTo L0 a 0 n L0.length).length + 1) c'], .int .i64 0]) (by simp [results, Try.results15, go_sem, *]) rfl ?_
          rw [e1.out, ← hpd.out]
          obtain ⟨Go, ho1, ho2, ho3⟩ := hO4.out
          have hGt := hGt.out
          have hGl := hGl.out
          have hbg : ∀ b ∈ G ++ Go, w.heap.size + 1 + 1 + 1 ≤ b ∧ b < Xo.heap.size ∧ b ≠ w4.heap.size + 1 := by
            intro b hb
            rcases List.mem_append.1 hb with h | h
            · have := hGt b h; have := hGl b h; omega
            · have := ho3 b h; have := ho1.lt b h; omega
          have hfin := own_put (W := Xo) (X := (w5.setCell ⟨w4.heap.size + 1, 0, none⟩ (.slice A' ((putTo L0 a 0 n L0.length).length + 1) c'))) (W0 := ((w.alloc (.cells #[.int .i64 0] 0)).alloc (.cells #[.int .i64 0] 0)).alloc (.cells #[.int .i64 0] 0)) (hvs.out.move (fun b hb => (hO1.out.block b (by have := hGt b hb; omega)).trans (HX4.out.block b (hGt b hb)))) hG.out ho1 ho2 (fun b hb hb' => by have := hGt b hb; have := ho3 b hb'; omega) (fun b hb => hrm b (hbg b hb).2.1 (by have := (hbg b hb).2.2; simp; omega)) (fun b hb => (hbg b hb).2.1) hae hr (fun b hb => by have := (hbg b hb).1; simp; omega) (by simp; omega)
          obtain ⟨F9, o9, n9, l9⟩ := hfin
          have hbw := Asd.mk (show Below w.heap.size w (w5.setCell ⟨w4.heap.size + 1, 0, none⟩ (.slice A' ((putTo L0 a 0 n L0.length).length + 1) c')) from (below_st HX.out hO1.out).trans (hrb))
          exact ⟨_, rfl, ⟨F9, o9.set (p := ⟨w.heap.size + 1 + 1, 0, none⟩) (fun hk => by have := l9 _ hk; simp at this; omega) _, n9, fun k hk => by have := l9 k hk; simp at this; omega⟩, by repeat (first | (with_reducible exact Below.refl _ _) | (with_reducible exact hbw.out) | (with_reducible refine below_al ?_ _) | (with_reducible refine below_dr ?_ _) | (with_reducible refine below_d1 ?_) | ((with_reducible refine Below.setCell ?_ ?_ _); rotate_left; (next => first | (simp; done) | (simp; omega) | omega)))⟩
end Go.Proofs.Ytmjfkjdfmpileaa.M
