/- Contracts: copyNode. -/
import Derived.Test.YtmjfkjdfmpileaaCln
set_option linter.unusedVariables false
set_option linter.unusedSimpArgs false
namespace Go.Proofs.Ytmjfkjdfmpileaa.M
open Go.RowKit
def Step.Bd (x : Step) : Prop := x.Asks.length ≤ 1000000 ∧ x.Cases.length ≤ 1000000
theorem reps_elem {α : Type} {w : World} {enc : α → List T} {sz : Nat} (hf : ∀ x, (enc x).length = sz) {xs : List α} {vs : List Value} (h : reps w (xs.flatMap enc) vs) {i : Nat} (hi : i < xs.length) :
    ∃ us, reps w (enc xs[i]) us ∧ vs.drop (i * sz) = us ++ vs.drop ((i + 1) * sz) ∧ us.length = sz := by
  have hd := reps_take sz (reps_drop (i * sz) h)
  rw [drop_flatMap enc sz hf, List.drop_eq_getElem_cons hi, List.flatMap_cons, List.take_append_of_le_length (by rw [hf]; omega), List.take_of_length_le (by rw [hf]; omega)] at hd
  refine ⟨_, hd, ?_, by rw [reps_length hd, hf]⟩
  rw [Nat.add_mul, Nat.one_mul, ← List.drop_drop, List.take_append_drop]
/-- the steps' row: the first k copied anew, the others as they were -/
def CpTo (B : Nat) (wr : World) (A : Option Addr) (c : Nat) (xs : List Step) (vs : List Value) (k : Nat) : Prop :=
  ∃ news F, wr.ownsRow 0 108 8 (.slice A xs.length c) xs.length (news ++ vs.drop (k * 8)) ∧ owns wr ((xs.take k).flatMap (Step.c 112)) news F ∧ (∀ g, (Value.slice A xs.length c).ownBlock = some g → g ∉ F) ∧ F.Nodup ∧ ∀ j ∈ F, B ≤ j
/-- what the row's element holds -/
theorem CpTo.cells {B : Nat} {wr : World} {g c : Nat} {xs : List Step} {vs us : List Value} {k : Nat} (h : CpTo B wr (some ⟨g, 0, none⟩) c xs vs k) (hk : k < xs.length) (hu : vs.drop (k * 8) = us ++ vs.drop ((k + 1) * 8)) :
    (∀ q u, us[q]? = some u → wr.cell? ⟨g, k * 8 + q, none⟩ = some u) ∧ ∀ o, wr.frozen? ⟨g, o, none⟩ = false := by
  obtain ⟨news, F, h1, h2, _⟩ := h
  have hl : news.length = k * 8 := by
    rw [owns_length h2, length_flatMap (Step.c 112) 8 (fun _ => rfl), List.length_take, Nat.min_eq_left (by omega)]
  refine ⟨fun q u hq => ?_, fun o => h1.frozenAt o⟩
  have := h1.cells (g := g) rfl (k * 8 + q) u (by rw [List.getElem?_append_right (by omega), hl, hu, Nat.add_sub_cancel_left, List.getElem?_append_left (by
    rcases Nat.lt_or_ge q us.length with h | h
    · exact h
    · rw [List.getElem?_eq_none h] at hq; cases hq), hq])
  rwa [add_zero'] at this
theorem set_mid {α : Type} (A B C : List α) (q : Nat) (u : α) (n : Nat) (hn : n = A.length) (hq : q < B.length) : (A ++ (B ++ C)).set (n + q) u = A ++ (B.set q u ++ C) := by
  subst hn
  rw [List.set_append_right _ _ (by omega), Nat.add_sub_cancel_left, List.set_append_left _ _ hq]
theorem set_mid0 {α : Type} (A B C : List α) (u : α) (n : Nat) (hn : n = A.length) (hq : 0 < B.length) : (A ++ (B ++ C)).set n u = A ++ (B.set 0 u ++ C) := set_mid A B C 0 u n hn hq
theorem CpTo.step {B : Nat} {wr w5 w6 : World} {g c : Nat} {xs : List Step} {vs : List Value} {k : Nat} {C0 C2 E0 E2 : Option Addr} {d0 d2 e0 e2 : Nat} {F0 F2 : List Nat} (h : CpTo B wr (some ⟨g, 0, none⟩) c xs vs k) (hk : k < xs.length)
    (hu : vs.drop (k * 8) = [.slice C0 xs[k].Asks.length d0, .int .i64 xs[k].On, .slice C2 xs[k].Cases.length d2, .int .i64 xs[k].Else, .int .i64 xs[k].Fall, .bool xs[k].End, .bool xs[k].Bad, .string xs[k].Give] ++ vs.drop ((k + 1) * 8))
    (hb5 : Below wr.heap.size wr w5) (hb6 : Below w5.heap.size w5 w6) (hB : B ≤ wr.heap.size)
    (o0 : own w5 (strsT 9 xs[k].Asks) (.slice E0 xs[k].Asks.length e0) F0) (n0 : F0.Nodup) (l0 : ∀ j ∈ F0, wr.heap.size ≤ j)
    (o2 : own w6 (CasesT 112 xs[k].Cases) (.slice E2 xs[k].Cases.length e2) F2) (n2 : F2.Nodup) (l2 : ∀ j ∈ F2, w5.heap.size ≤ j) :
    CpTo B ((w6.setCell ⟨g, k * 8, none⟩ (.slice E0 xs[k].Asks.length e0)).setCell ⟨g, k * 8 + 2, none⟩ (.slice E2 xs[k].Cases.length e2)) (some ⟨g, 0, none⟩) c xs vs (k + 1) := by
  obtain ⟨news, F, h1, h2, h3, h4, h5⟩ := h
  have hl : news.length = k * 8 := by
    rw [owns_length h2, length_flatMap (Step.c 112) 8 (fun _ => rfl), List.length_take, Nat.min_eq_left (by omega)]
  have hg := (h1.lt g rfl).2
  have hgF := h3 g rfl
  have b6 := below_st hb5 hb6
  have u0 := o0.lt
  have u2 := o2.lt
  have hF := h2.lt
  have hg0 : g ∉ F0 := fun hk => by have := l0 g hk; omega
  have hg2 : g ∉ F2 := fun hk => by have := l2 g hk; have := hb5.size; omega
  have r1 := ownsRow_move h1 (fun j hj => by have : g = j := by simpa [Value.ownBlock] using hj
                                             subst this; exact b6.block g hg)
  have r2 := (r1.stored (k * 8) (.slice E0 xs[k].Asks.length e0)).1
  have r3 := (r2.stored (k * 8 + 2) (.slice E2 xs[k].Cases.length e2)).1
  rw [hu, set_mid0 news _ _ _ (k * 8) hl.symm (by simp), set_mid news _ _ 2 _ (k * 8) hl.symm (by simp)] at r3
  refine ⟨news ++ [.slice E0 xs[k].Asks.length e0, .int .i64 xs[k].On, .slice E2 xs[k].Cases.length e2, .int .i64 xs[k].Else, .int .i64 xs[k].Fall, .bool xs[k].End, .bool xs[k].Bad, .string xs[k].Give], F ++ (F0 ++ F2), ?_, ?_, ?_, ?_, ?_⟩
  · rw [List.append_assoc]; exact r3
  · rw [List.take_succ_eq_append_getElem hk, List.flatMap_append]
    refine owns_append (((h2.below b6).set (p := ⟨g, k * 8, none⟩) hgF _).set (p := ⟨g, k * 8 + 2, none⟩) hgF _) ?_
    have := Step.omk xs[k] (((o0.below hb6).set (p := ⟨g, k * 8, none⟩) hg0 (.slice E0 xs[k].Asks.length e0)).set (p := ⟨g, k * 8 + 2, none⟩) hg0 (.slice E2 xs[k].Cases.length e2)) ((o2.set (p := ⟨g, k * 8, none⟩) hg2 (.slice E0 xs[k].Asks.length e0)).set (p := ⟨g, k * 8 + 2, none⟩) hg2 (.slice E2 xs[k].Cases.length e2))
    simpa using this
  · intro j hj hk'
    have : g = j := by simpa [Value.ownBlock] using hj
    subst this
    rcases List.mem_append.1 hk' with hk' | hk'
    · exact hgF hk'
    · rcases List.mem_append.1 hk' with hk' | hk'
      · exact hg0 hk'
      · exact hg2 hk'
  · refine nod2 h4 (nod2 n0 n2 (fun a ha hb => ?_)) (fun a ha hb => ?_)
    · have := u0 a ha; have := l2 a hb; omega
    · have := hF a ha
      rcases List.mem_append.1 hb with hb | hb
      · have := l0 a hb; omega
      · have := l2 a hb; have := hb5.size; omega
  · exact mem2 h5 (mem2 (fun j hj => Nat.le_trans hB (l0 j hj)) (fun j hj => by have := l2 j hj; have := hb5.size; omega))
set_option maxRecDepth 100000 in
set_option maxHeartbeats 4000000 in
theorem copyNode_calls {tS tC : Nat} (x : Node) (w : World) {vs : List Value} (h : reps w (x.c tS tC) vs) (hn : x.Action.Steps.length ≤ 1000000) (hb : ∀ s ∈ x.Action.Steps, s.Bd) :
    Calls Try.prog 40 #[.agg vs.toArray] w (MadeA w (x.c 108 112)) := by
  obtain ⟨v2, rfl, h2⟩ := Node.ropen h
  obtain ⟨A2, c2, rfl, _, _⟩ := rep_len h2
  replace h2 := Asd.mk h2
  replace hb := Asd.mk hb
  clear h
  go_enter Try.func40, Try.ntmps40
  go_wp2_with (fail)
  refine (CloneStep_calls x.Action.Steps _ _ w (below_al (below_al (Below.refl _ _) _) _) h2.out (by omega)).mono ?_
  rintro e w1 ⟨v', vs, rfl, hr, hrow, hb1⟩
  obtain ⟨A', c', rfl⟩ : ∃ A' c', v' = .slice A' x.Action.Steps.length c' := by
    rcases hrow.1.2 with ⟨rfl, h0⟩ | ⟨g, cap, cur, rfl, _⟩
    · exact ⟨none, 0, by rw [h0]⟩
    · exact ⟨_, cap, rfl⟩
  obtain ⟨W, hW⟩ : ∃ W : World, W = (w.alloc (.cells #[.string x.Name, .int .i64 x.Action.Cost, .slice A2 x.Action.Steps.length c2] 46)).alloc (.cells #[.string ⟨#[]⟩, .int .i64 0, .slice none 0 0] 46) := ⟨_, rfl⟩
  rw [← hW] at hb1 hrow
  have sW : W.heap.size = w.heap.size + 1 + 1 := by rw [hW]; simp
  have hbW : Below w.heap.size w W := by rw [hW]; exact below_al (below_al (Below.refl _ _) _) _
  have a0 : w1.cell? ⟨w.heap.size, 0, none⟩ = some (.string x.Name) := by rw [hb1.cell (by simp; omega), hW]; go_simp
  have a1 : w1.cell? ⟨w.heap.size, 1, none⟩ = some (.int .i64 x.Action.Cost) := by rw [hb1.cell (by simp; omega), hW]; go_simp
  have a2 : w1.cell? ⟨w.heap.size, 2, none⟩ = some (.slice A2 x.Action.Steps.length c2) := by rw [hb1.cell (by simp; omega), hW]; go_simp
  have af : ∀ o, w1.frozen? ⟨w.heap.size, o, none⟩ = false := by intro o; rw [hb1.frozen (by simp; omega), hW]; go_simp
  have r0 : w1.cell? ⟨w.heap.size + 1, 0, none⟩ = some (.string ⟨#[]⟩) := by rw [hb1.cell (by simp; omega), hW]; go_simp
  have r1 : w1.cell? ⟨w.heap.size + 1, 1, none⟩ = some (.int .i64 0) := by rw [hb1.cell (by simp; omega), hW]; go_simp
  have r2 : w1.cell? ⟨w.heap.size + 1, 2, none⟩ = some (.slice none 0 0) := by rw [hb1.cell (by simp; omega), hW]; go_simp
  have rf : ∀ o, w1.frozen? ⟨w.heap.size + 1, o, none⟩ = false := by intro o; rw [hb1.frozen (by simp; omega), hW]; go_simp
  have z0 : w.heap.size < w1.heap.size := by have := hb1.size; omega
  have z1 : w.heap.size + 1 < w1.heap.size := by have := hb1.size; omega
  have hbw := below_st hbW hb1
  clear hW
  go_wp2
  go_loopw [15] (fun i wr => ∃ k : Nat, k ≤ x.Action.Steps.length ∧ i = .int .i64 k ∧ CpTo W.heap.size wr A' c' x.Action.Steps vs k ∧ Below w.heap.size w wr ∧ w.heap.size + 1 < wr.heap.size ∧ wr.cell? ⟨w.heap.size, 0, none⟩ = some (.string x.Name) ∧ wr.cell? ⟨w.heap.size, 1, none⟩ = some (.int .i64 x.Action.Cost) ∧ wr.cell? ⟨w.heap.size, 2, none⟩ = some (.slice A' x.Action.Steps.length c') ∧ wr.cell? ⟨w.heap.size + 1, 0, none⟩ = some (.string ⟨#[]⟩) ∧ wr.cell? ⟨w.heap.size + 1, 1, none⟩ = some (.int .i64 0) ∧ wr.cell? ⟨w.heap.size + 1, 2, none⟩ = some (.slice none 0 0) ∧ ∀ o, wr.frozen? ⟨w.heap.size + 1, o, none⟩ = false) (fun i _ => x.Action.Steps.length - (intOf i).toNat)
  case atStart =>
    refine ⟨0, by omega, rfl, ⟨[], [], ?_, by simp [owns], fun g _ hk => (by cases hk), List.nodup_nil, fun j hj => (by cases hj)⟩, ?_, by simp; omega, ?_, ?_, ?_, ?_, ?_, ?_, ?_⟩
    · simp only [List.nil_append, Nat.zero_mul, List.drop_zero]
      exact ownsRow_move hrow.1 (fun j hj => Below.heap_setCell w1 _ _ j (fun e => by have := hrow.2 j hj; simp at e; omega))
    · exact Below.setCell hbw (by simp) _
    all_goals (first | go_simp | (intro o; go_simp))
  case round =>
    obtain ⟨k, hk, rfl, hC, hbr, hsz, b0, b1, b2, s0, s1, s2, sf⟩ := hrel
    by_cases hlt : k < x.Action.Steps.length
    · obtain ⟨us, hus, hdr, hul⟩ := reps_elem (enc := Step.c tC) (sz := 8) (fun _ => rfl) hr hlt
      obtain ⟨u0, u2, rfl, q0, q2⟩ := Step.ropen hus
      obtain ⟨g, c'', he, _⟩ := hC.choose_spec.choose_spec.1.form (by omega)
      cases he
      obtain ⟨hcs, hcf⟩ := hC.cells hlt hdr
      have k0 := hcs 0 _ rfl
      have k2 := hcs 2 _ rfl
      obtain ⟨C0, d0, rfl, _, _⟩ := rep_len q0
      obtain ⟨C2, d2, rfl, _, _⟩ := rep_len q2
      replace q0 := Asd.mk q0
      replace q2 := Asd.mk q2
      replace hC := Asd.mk hC
      have hbd := hb.out _ (List.getElem_mem hlt)
      have hgw : g < wr.heap.size := by
        have := hC.out.choose_spec.choose_spec.1.lt g rfl
        omega
      have hk2 : wr.cell? ⟨g, k * 8, none⟩ = some (.slice C0 x.Action.Steps[k].Asks.length d0) := k0
      have hbs : Below wr.heap.size wr wr.drew := (Below.refl _ _).drew
      have hkeep : ∀ X Y, Below X.heap.size X Y → (Below wr.heap.size wr X ∧ X.cell? ⟨g, k * 8, none⟩ = some (.slice C0 x.Action.Steps[k].Asks.length d0) ∧ X.cell? ⟨g, k * 8 + 2, none⟩ = some (.slice C2 x.Action.Steps[k].Cases.length d2) ∧ (∀ o, X.frozen? ⟨g, o, none⟩ = false)) → (Below wr.heap.size wr Y ∧ Y.cell? ⟨g, k * 8, none⟩ = some (.slice C0 x.Action.Steps[k].Asks.length d0) ∧ Y.cell? ⟨g, k * 8 + 2, none⟩ = some (.slice C2 x.Action.Steps[k].Cases.length d2) ∧ (∀ o, Y.frozen? ⟨g, o, none⟩ = false)) := by
        rintro X Y hb ⟨p0, p1, p2, p3⟩
        exact ⟨below_st p0 hb, cell_below hb p1, cell_below hb p2, fun o => by rw [hb.frozen (p := ⟨g, o, none⟩) (Nat.lt_of_lt_of_le hgw p0.size)]; exact p3 o⟩
      replace hkeep := Asd.mk hkeep
      clear hcs hus k0
      replace hdr := Asd.mk hdr
      go_wp2
      go_region_with
        (first | (go_at_call 75; refine (CloneStr_calls _ _ _ (q0.out.below (below_st hbr (by assumption))) (by have := hbd.1; omega)).mono ?_; rintro e w5 ⟨m0, rfl, ⟨F0, o0, nd0, l0⟩, hb5⟩; obtain ⟨E0, e0, rfl, _, _⟩ := own_slice o0; replace o0 := Asd.mk o0; obtain ⟨s0_, s1_, s2_, s3_⟩ := hkeep.out _ _ hb5 ⟨by assumption, by assumption, by assumption, by assumption⟩) | (go_at_call 76; refine (CloneCase_calls _ _ _ (q2.out.below (below_st hbr (by assumption))) (by have := hbd.2; omega)).mono ?_; rintro e w6 ⟨m2, rfl, ⟨F2, o2, nd2, l2⟩, hb6⟩; obtain ⟨E2, e2, rfl, _, _⟩ := own_slice o2; replace o2 := Asd.mk o2; obtain ⟨s0_, s1_, s2_, s3_⟩ := hkeep.out _ _ hb6 ⟨by assumption, by assumption, by assumption, by assumption⟩))
      all_goals
        have e1 := Asd.mk (hC.out.step hlt hdr.out (by assumption) hb6 (by omega) o0.out nd0 l0 o2.out nd2 l2)
        have hbz := Asd.mk (below_st hbr (by assumption))
        have hgW : W.heap.size ≤ g := hrow.2 g rfl
        have hb16 : Below wr.heap.size wr w6 := by assumption
        have hWr : W.heap.size ≤ wr.heap.size := by omega
        have cfar : ∀ b o, b < W.heap.size → ((w6.setCell ⟨g, k * 8, none⟩ (.slice E0 x.Action.Steps[k].Asks.length e0)).setCell ⟨g, k * 8 + 2, none⟩ (.slice E2 x.Action.Steps[k].Cases.length e2)).cell? ⟨b, o, none⟩ = wr.cell? ⟨b, o, none⟩ := fun b o h => by
          rw [World.cell?_setCell_far _ _ _ _ (by simp; omega), World.cell?_setCell_far _ _ _ _ (by simp; omega), hb16.cell (by simp; omega)]
        have ffar : ∀ b o, b < W.heap.size → ((w6.setCell ⟨g, k * 8, none⟩ (.slice E0 x.Action.Steps[k].Asks.length e0)).setCell ⟨g, k * 8 + 2, none⟩ (.slice E2 x.Action.Steps[k].Cases.length e2)).frozen? ⟨b, o, none⟩ = wr.frozen? ⟨b, o, none⟩ := fun b o h => by
          rw [World.frozen?_setCell, World.frozen?_setCell, hb16.frozen (by simp; omega)]
        replace cfar := Asd.mk cfar
        replace ffar := Asd.mk ffar
        have hw6 : wr.heap.size ≤ w6.heap.size := hb16.size
        clear hb16
        go_wp2
        go_roundw
        case rel => exact ⟨k + 1, by omega, by go_num, e1.out, by repeat (first | (with_reducible exact Below.refl _ _) | (with_reducible exact hbz.out) | (with_reducible refine below_al ?_ _) | (with_reducible refine below_dr ?_ _) | (with_reducible refine below_d1 ?_) | ((with_reducible refine Below.setCell ?_ ?_ _); rotate_left; (next => first | (simp; done) | (simp; omega) | omega))), by have := hbz.out.size; simp; omega, by rw [cfar.out _ _ (by omega)]; exact b0, by rw [cfar.out _ _ (by omega)]; exact b1, by rw [cfar.out _ _ (by omega)]; exact b2, by rw [cfar.out _ _ (by omega)]; exact s0, by rw [cfar.out _ _ (by omega)]; exact s1, by rw [cfar.out _ _ (by omega)]; exact s2, fun o => by rw [ffar.out _ _ (by omega)]; exact sf o⟩
        case measure => simp [intOf]; omega
    · obtain rfl : k = x.Action.Steps.length := by omega
      obtain ⟨news, F, h1, h2', h3, h4, h5⟩ := hC
      rw [List.drop_eq_nil_of_le (by rw [reps_length hr, length_flatMap (Step.c tC) 8 (fun _ => rfl)]; exact Nat.le_refl _), List.append_nil] at h1
      rw [List.take_length] at h2'
      have ho : own wr (StepsT 108 112 x.Action.Steps) (.slice A' x.Action.Steps.length c') ((Value.slice A' x.Action.Steps.length c').ownBlock.toList ++ F) := by
        unfold StepsT tl own
        exact .inl ⟨news, F, h1, h2', rfl, h3⟩
      have hA : ∀ j, (Value.slice A' x.Action.Steps.length c').ownBlock = some j → W.heap.size ≤ j := hrow.2
      have hN : ((Value.slice A' x.Action.Steps.length c').ownBlock.toList ++ F).Nodup := nod2 (by cases (Value.slice A' x.Action.Steps.length c').ownBlock <;> simp) h4 (fun a ha hb => h3 a (by cases hv : (Value.slice A' x.Action.Steps.length c').ownBlock <;> simp_all) hb)
      have hL : ∀ j ∈ ((Value.slice A' x.Action.Steps.length c').ownBlock.toList ++ F), W.heap.size ≤ j := mem2 (fun j hj => hA j (by cases hv : (Value.slice A' x.Action.Steps.length c').ownBlock <;> simp_all)) h5
      generalize ((Value.slice A' x.Action.Steps.length c').ownBlock.toList ++ F) = G at ho hN hL
      replace ho := Asd.mk ho
      replace hN := Asd.mk hN
      replace hL := Asd.mk hL
      clear h1 h2' h3 h4 h5 hA
      go_wp2
      refine bodyPost_ret (v := .agg #[.string x.Name, .int .i64 x.Action.Cost, .slice A' x.Action.Steps.length c']) (by simp [results, Try.results40, go_sem, *]) rfl ?_
      have hG : ∀ q u, own wr (StepsT 108 112 x.Action.Steps) (.slice A' x.Action.Steps.length c') G → own (wr.setCell ⟨w.heap.size + 1, q, none⟩ u) (StepsT 108 112 x.Action.Steps) (.slice A' x.Action.Steps.length c') G := fun q u h => h.set (fun hk => by have := hL.out _ hk; simp at this; omega) u
      refine ⟨_, rfl, ⟨G, Node.omk x (((ho.out.set (p := ⟨w.heap.size + 1, 0, none⟩) (fun hk => by have := hL.out _ hk; simp at this; omega) _).set (p := ⟨w.heap.size + 1, 1, none⟩) (fun hk => by have := hL.out _ hk; simp at this; omega) _).set (p := ⟨w.heap.size + 1, 2, none⟩) (fun hk => by have := hL.out _ hk; simp at this; omega) _), hN.out, fun j hj => by have := hL.out j hj; omega⟩, by repeat (first | (with_reducible exact Below.refl _ _) | (with_reducible exact hbr) | (with_reducible refine below_al ?_ _) | (with_reducible refine below_dr ?_ _) | (with_reducible refine below_d1 ?_) | ((with_reducible refine Below.setCell ?_ ?_ _); rotate_left; (next => first | (simp; done) | (simp; omega) | omega)))⟩
end Go.Proofs.Ytmjfkjdfmpileaa.M
