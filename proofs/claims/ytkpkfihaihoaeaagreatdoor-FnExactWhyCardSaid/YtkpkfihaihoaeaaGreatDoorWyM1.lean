/- The law of Why, walked. -/
import Derived.Test.YtkpkfihaihoaeaaGreatDoorVsM5
import Derived.Deep.RegionWith
import Derived.Deep.RegionHeld3
section
set_option linter.unusedVariables false
set_option linter.unusedSimpArgs false
namespace Go.Proofs.YtkpkfihaihoaeaaGreatDoor.M
open Go.RowKit
/-- what is known in R is known in S -/
def SubA (W : Web) (R S : List Run) : Prop := ∀ q a, answerOf W R q = some a → answerOf W S q = some a
theorem nextRun_zero {a : Action} {r : Run} (h : r.Visits = 0) (xs ys : List Answer) : nextRun a r xs = nextRun a r ys := by
  have h2 : ¬r.Visits = 20 := by omega
  unfold nextRun
  simp only [if_neg h2, if_pos h]
theorem nextOf_sub {W : Web} {R S : List Run} (h : SubA W R S) {r : Run} (hr : isReady W R r = true) : nextOf W S r = nextOf W R r := by
  unfold nextOf
  by_cases hv : r.Visits = 0
  · exact nextRun_zero hv _ _
  · have h1 := ready_ans hr hv
    have h2 := answers_mono h h1
    have : ansFor W S r = ansFor W R r := by unfold ansFor; rw [h2]; unfold ansFor at h1; rw [h1]; rfl
    rw [this]
/-- so many units of a thing, with what is known in R; and what they asked for -/
def playF (W : Web) (R : List Run) (q : ByteArray) : Nat → Option (Run × List ByteArray)
  | 0 => some (newRun q, [])
  | n + 1 => match playF W R q n with
    | none => none
    | some p => if isReady W R p.1 then some ((nextOf W R p.1).1, p.2 ++ (nextOf W R p.1).2) else none
theorem playF_succ {W : Web} {R : List Run} {q : ByteArray} {n : Nat} {p : Run × List ByteArray} (h : playF W R q n = some p) (hr : isReady W R p.1 = true) : playF W R q (n + 1) = some ((nextOf W R p.1).1, p.2 ++ (nextOf W R p.1).2) := by
  simp only [playF, h]; rw [if_pos hr]
theorem playF_not {W : Web} {R : List Run} {q : ByteArray} {n : Nat} {p : Run × List ByteArray} (h : playF W R q n = some p) (hr : isReady W R p.1 = false) : playF W R q (n + 1) = none := by
  simp only [playF, h]; rw [if_neg (by rw [hr]; decide)]
theorem playF_inv {W : Web} {R : List Run} {q : ByteArray} {n : Nat} {p : Run × List ByteArray} (h : playF W R q (n + 1) = some p) : ∃ p0, playF W R q n = some p0 ∧ isReady W R p0.1 = true ∧ p = ((nextOf W R p0.1).1, p0.2 ++ (nextOf W R p0.1).2) := by
  cases h0 : playF W R q n with
  | none => simp [playF, h0] at h
  | some p0 =>
    cases hr : isReady W R p0.1 with
    | false => rw [playF_not h0 hr] at h; cases h
    | true => rw [playF_succ h0 hr] at h; exact ⟨p0, rfl, hr, (Option.some.inj h).symm⟩
theorem playF_down {W : Web} {R : List Run} {q : ByteArray} : ∀ (d : Nat) {n : Nat} {p : Run × List ByteArray}, playF W R q (n + d) = some p → ∃ p0, playF W R q n = some p0 ∧ ∃ l, p.2 = p0.2 ++ l
  | 0, n, p, h => ⟨p, h, [], by simp⟩
  | d + 1, n, p, h => by
    obtain ⟨p1, h1, _, rfl⟩ := playF_inv (n := n + d) h
    obtain ⟨p0, h0, l, hl⟩ := playF_down d h1
    exact ⟨p0, h0, l ++ (nextOf W R p1.1).2, by simp only; rw [hl, List.append_assoc]⟩
theorem playF_le {W : Web} {R : List Run} {q : ByteArray} {m n : Nat} (hm : m ≤ n) {p : Run × List ByteArray} (h : playF W R q n = some p) : ∃ p0, playF W R q m = some p0 ∧ ∃ l, p.2 = p0.2 ++ l := by
  obtain ⟨d, rfl⟩ : ∃ d, n = m + d := ⟨n - m, by omega⟩
  exact playF_down d h
theorem playF_lt {W : Web} {R : List Run} {q : ByteArray} {m n : Nat} (hm : m < n) {p p0 : Run × List ByteArray} (h : playF W R q n = some p) (h0 : playF W R q m = some p0) : isReady W R p0.1 = true := by
  obtain ⟨p1, h1, _⟩ := playF_le (m := m + 1) (by omega) h
  obtain ⟨p2, h2, h3, _⟩ := playF_inv h1
  rw [h0] at h2
  cases h2
  exact h3
theorem playF_sub {W : Web} {R S : List Run} (hs : SubA W R S) {q : ByteArray} : ∀ {n : Nat} {p : Run × List ByteArray}, playF W R q n = some p → playF W S q n = some p
  | 0, p, h => h
  | n + 1, p, h => by
    obtain ⟨p0, h0, hr, rfl⟩ := playF_inv h
    rw [playF_succ (playF_sub hs h0) (ready_mono' hs hr), nextOf_sub hs hr]
theorem playF_name {W : Web} {R : List Run} {q : ByteArray} : ∀ {n : Nat} {p : Run × List ByteArray}, playF W R q n = some p → p.1.Name = q
  | 0, p, h => by cases h; rfl
  | n + 1, p, h => by
    obtain ⟨p0, h0, hr, rfl⟩ := playF_inv h
    rw [nextOf_name]; exact playF_name h0
theorem playF_ok {W : Web} {R : List Run} {q : ByteArray} (hw : checkWeb W = 0) (hR : ∀ r ∈ R, RunOk W r) (hq : hasN W.Nodes q = true) : ∀ {n : Nat} {p : Run × List ByteArray}, playF W R q n = some p → RunOk W p.1
  | 0, p, h => by cases h; exact newRun_ok hw hq
  | n + 1, p, h => by
    obtain ⟨p0, h0, hr, rfl⟩ := playF_inv h
    exact next_ok hw hR (playF_ok hw hR hq h0) hr
theorem arrive_vis (a : Action) (r : Run) : (arrive a r).1.Visits = r.Visits + 1 := by
  unfold arrive; simp only; split <;> rfl
theorem nextOf_vis {W : Web} {R : List Run} {r : Run} : (r.Visits = 20 ∧ (nextOf W R r).1.Visits = 20 ∧ (nextOf W R r).1.Over = true ∧ (nextOf W R r).2 = []) ∨ (r.Visits ≠ 20 ∧ (nextOf W R r).1.Visits = r.Visits + 1) := by
  unfold nextOf nextRun
  by_cases h : r.Visits = 20
  · rw [if_pos h]; exact .inl ⟨h, h, rfl, rfl⟩
  · rw [if_neg h]
    refine .inr ⟨h, ?_⟩
    split
    · exact arrive_vis _ _
    · unfold goRun
      split
      · rfl
      · rw [arrive_vis]
theorem playF_vis {W : Web} {R : List Run} {q : ByteArray} : ∀ {n : Nat} {p : Run × List ByteArray}, playF W R q n = some p → (n ≤ 20 ∧ p.1.Visits = (n : Int)) ∨ (n = 21 ∧ p.1.Visits = 20 ∧ p.1.Over = true)
  | 0, p, h => by cases h; exact .inl ⟨by omega, rfl⟩
  | n + 1, p, h => by
    obtain ⟨p0, h0, hr, rfl⟩ := playF_inv h
    rcases playF_vis h0 with ⟨a, b⟩ | ⟨a, b, c⟩
    · rcases nextOf_vis (W := W) (R := R) (r := p0.1) with ⟨c, d, e, f⟩ | ⟨c, d⟩
      · exact .inr ⟨by omega, d, e⟩
      · exact .inl ⟨by omega, by simp only; rw [d, b]; omega⟩
    · rw [ready_over hr] at c; cases c
theorem playF_top {W : Web} {R : List Run} {q : ByteArray} {n : Nat} {p : Run × List ByteArray} (h : playF W R q n = some p) : n ≤ 21 := by
  rcases playF_vis h with ⟨a, _⟩ | ⟨a, _⟩ <;> omega
/-- as far as it goes -/
def agF (W : Web) (R : List Run) : Nat → Run × List ByteArray → Run × List ByteArray
  | 0, p => p
  | f + 1, p => if isReady W R p.1 then agF W R f ((nextOf W R p.1).1, p.2 ++ (nextOf W R p.1).2) else p
def agR (W : Web) (R : List Run) (q : ByteArray) : Run × List ByteArray := agF W R 22 (newRun q, [])
theorem agF_play {W : Web} {R : List Run} {q : ByteArray} : ∀ (f : Nat) {n : Nat} {p : Run × List ByteArray}, playF W R q n = some p → 22 ≤ f + n → ∃ m, playF W R q m = some (agF W R f p) ∧ isReady W R (agF W R f p).1 = false
  | 0, n, p, h, hf => by have := playF_top h; omega
  | f + 1, n, p, h, hf => by
    unfold agF
    cases hr : isReady W R p.1 with
    | false => rw [if_neg (by decide)]; exact ⟨n, h, hr⟩
    | true => rw [if_pos rfl]; exact agF_play f (playF_succ h hr) (by omega)
theorem agR_play (W : Web) (R : List Run) (q : ByteArray) : ∃ m, playF W R q m = some (agR W R q) ∧ isReady W R (agR W R q).1 = false := agF_play 22 (n := 0) rfl (by omega)
theorem play_last {W : Web} {R : List Run} {q : ByteArray} {m n : Nat} {p p0 : Run × List ByteArray} (h : playF W R q n = some p) (h0 : playF W R q m = some p0) (hr0 : isReady W R p0.1 = false) : n ≤ m := by
  rcases Nat.lt_or_ge m n with hl | hl
  · rw [playF_lt hl h h0] at hr0; cases hr0
  · exact hl
theorem agR_eq {W : Web} {R : List Run} {q : ByteArray} {n : Nat} {p : Run × List ByteArray} (h : playF W R q n = some p) (hr : isReady W R p.1 = false) : agR W R q = p := by
  obtain ⟨m, hm, hrm⟩ := agR_play W R q
  have h1 := play_last h hm hrm
  have h2 := play_last hm h hr
  obtain rfl : n = m := by omega
  rw [h] at hm
  exact (Option.some.inj hm).symm
theorem agR_pre {W : Web} {R : List Run} {q : ByteArray} {n : Nat} {p : Run × List ByteArray} (h : playF W R q n = some p) : ∃ l, (agR W R q).2 = p.2 ++ l := by
  obtain ⟨m, hm, hrm⟩ := agR_play W R q
  obtain ⟨p0, h0, l, hl⟩ := playF_le (play_last h hm hrm) hm
  rw [h] at h0
  cases h0
  exact ⟨l, hl⟩
theorem agR_over {W : Web} {R : List Run} {q : ByteArray} {n : Nat} {p : Run × List ByteArray} (h : playF W R q n = some p) (ho : p.1.Over = true) : agR W R q = p :=
  agR_eq h (by unfold isReady; rw [ho]; rfl)
theorem agR_sub {W : Web} {R S : List Run} (h1 : SubA W R S) (h2 : SubA W S R) (q : ByteArray) : agR W R q = agR W S q := by
  obtain ⟨m, hm, hrm⟩ := agR_play W R q
  refine (agR_eq (playF_sub h1 hm) ?_).symm
  cases hr : isReady W S (agR W R q).1 with
  | false => rfl
  | true => rw [ready_mono' h2 hr] at hrm; cases hrm
/-- each run of a state that is come to can be played again; what was asked for has a run -/
def HistR (W : Web) (R S : List Run) (r : Run) : Prop := ∃ n a, playF W S r.Name n = some (r, a) ∧ ∀ q ∈ a, hasN W.Nodes q = true → ∃ y, runOf S q = some y
theorem sub_do {W : Web} {R : List Run} {r : Run} (hR : Inv W R) (hr : r ∈ R) (h : isReady W R r = true) : SubA W R (doRun W R r) := fun q a ha => ans_mono hR hr h ha
theorem runOf_do_some {W : Web} {R : List Run} (r : Run) {q : ByteArray} {y : Run} (h : runOf R q = some y) : ∃ z, runOf (doRun W R r) q = some z := by
  rw [runOf_doRun, h]; exact ⟨_, rfl⟩
theorem mem_do {W : Web} {R : List Run} {r x : Run} (hx : x ∈ doRun W R r) : (x = (nextOf W R r).1) ∨ (x ∈ R ∧ x.Name ≠ r.Name) ∨ ∃ q ∈ (nextOf W R r).2, x = newRun q ∧ hasN W.Nodes q = true := by
  unfold doRun at hx
  rcases mem_wants _ hx with h | h
  · rcases mem_setR h with h | ⟨h1, h2⟩
    · exact .inl h
    · rw [nextOf_name] at h2; exact .inr (.inl ⟨h1, h2⟩)
  · exact .inr (.inr h)
theorem Reach.hist {W : Web} {roots : List ByteArray} (hw : checkWeb W = 0) {R : List Run} (h : Reach W roots R) : ∀ x ∈ R, HistR W R R x := by
  induction h with
  | start =>
    intro x hx
    rcases mem_wants _ hx with h | ⟨q, _, rfl, _⟩
    · cases h
    · exact ⟨0, [], rfl, fun q hq => by cases hq⟩
  | step hR hr hd ih =>
    rename_i R r
    have hI := hR.inv hw
    have hs := sub_do hI hr hd
    intro x hx
    rcases mem_do hx with rfl | ⟨hx, hne⟩ | ⟨q, _, rfl, _⟩
    · obtain ⟨n, a, hp, ha⟩ := ih r hr
      refine ⟨n + 1, a ++ (nextOf W R r).2, ?_, fun q hq hN => ?_⟩
      · rw [nextOf_name]
        exact playF_sub hs (playF_succ hp hd)
      · rcases List.mem_append.1 hq with h | h
        · obtain ⟨y, hy⟩ := ha q h hN
          exact runOf_do_some r hy
        · rw [runOf_doRun]
          cases runOf R q with
          | some y => exact ⟨_, rfl⟩
          | none => simp only; rw [if_pos ⟨h, hN⟩]; exact ⟨_, rfl⟩
    · obtain ⟨n, a, hp, ha⟩ := ih x hx
      exact ⟨n, a, playF_sub hs hp, fun q hq hN => by obtain ⟨y, hy⟩ := ha q hq hN; exact runOf_do_some r hy⟩
    · exact ⟨0, [], rfl, fun q hq => by cases hq⟩
theorem Reach.roots {W : Web} {roots : List ByteArray} {R : List Run} (h : Reach W roots R) : ∀ q ∈ roots, hasN W.Nodes q = true → ∃ y, runOf R q = some y := by
  induction h with
  | start =>
    intro q hq hN
    unfold begin_
    rw [runOf_wants]
    rw [if_pos ⟨hq, hN⟩]; exact ⟨_, rfl⟩
  | step hR hr hd ih => intro q hq hN; obtain ⟨y, hy⟩ := ih q hq hN; exact runOf_do_some _ hy
/-- what a run has asked for so far -/
def askOf (W : Web) (R : List Run) (r : Run) : List ByteArray := ((playF W R r.Name r.Visits.toNat).map Prod.snd).getD []
theorem hist_vis {W : Web} {R S : List Run} {r : Run} (h : HistR W R S r) : ∃ n a, playF W S r.Name n = some (r, a) ∧ ((n ≤ 20 ∧ r.Visits = (n : Int)) ∨ (n = 21 ∧ r.Visits = 20 ∧ r.Over = true)) ∧ ∃ p, playF W S r.Name r.Visits.toNat = some p ∧ p.2 = a ∧ ∀ k, k < r.Visits.toNat → ∃ pk, playF W S r.Name k = some pk ∧ isReady W S pk.1 = true ∧ pk.1.Visits = (k : Int) := by
  obtain ⟨n, a, hp, _⟩ := h
  have hv := playF_vis hp
  refine ⟨n, a, hp, hv, ?_⟩
  have key : ∀ k, k < r.Visits.toNat → k < n := by
    intro k hk
    rcases hv with ⟨_, b⟩ | ⟨b, c, _⟩
    · have : r.Visits = (n : Int) := b
      omega
    · have : r.Visits = 20 := c
      omega
  have key2 : ∀ k, k < r.Visits.toNat → ∃ pk, playF W S r.Name k = some pk ∧ isReady W S pk.1 = true ∧ pk.1.Visits = (k : Int) := by
    intro k hk
    obtain ⟨pk, h1, _⟩ := playF_le (Nat.le_of_lt (key k hk)) hp
    refine ⟨pk, h1, playF_lt (key k hk) hp h1, ?_⟩
    rcases playF_vis h1 with ⟨_, b⟩ | ⟨b, c, d⟩
    · exact b
    · have := playF_lt (key k hk) hp h1
      rw [ready_over this] at d; cases d
  rcases hv with ⟨_, b⟩ | ⟨b, c, d⟩
  · have hb : r.Visits = (n : Int) := b
    refine ⟨(r, a), ?_, rfl, key2⟩
    rw [hb]; exact hp
  · have hc : r.Visits = 20 := c
    obtain ⟨p0, h0, hr0, he⟩ := playF_inv (n := 20) (b ▸ hp)
    refine ⟨p0, by rw [hc]; exact h0, ?_, key2⟩
    have hv0 : p0.1.Visits = 20 := by
      rcases playF_vis h0 with ⟨_, b⟩ | ⟨b, _⟩
      · simpa using b
      · omega
    rcases nextOf_vis (W := W) (R := S) (r := p0.1) with ⟨_, _, _, f⟩ | ⟨c', _⟩
    · rw [f] at he
      have := congrArg Prod.snd he
      simpa using this.symm
    · exact absurd hv0 c'
end Go.Proofs.YtkpkfihaihoaeaaGreatDoor.M
end
section
set_option linter.unusedVariables false
set_option linter.unusedSimpArgs false
namespace Go.Proofs.YtkpkfihaihoaeaaGreatDoor.M
open Go.RowKit
inductive WhyL (W : Web) (R : List Run) : ByteArray → List ByteArray → Prop where
  | stop {q : ByteArray} {r : Run} : runOf R q = some r → r.Over = true → r.Fail = true → ((stepOf W r).End = true ∨ r.Text = spentT) → WhyL W R q [q]
  | gone {q X : ByteArray} {r : Run} : runOf R q = some r → r.Over = true → r.Fail = true → (stepOf W r).End = false → r.Text = belowT X → hasN W.Nodes X = false → runOf R X = none → WhyL W R q [q, X]
  | next {q X : ByteArray} {r : Run} {l : List ByteArray} : runOf R q = some r → r.Over = true → r.Fail = true → (stepOf W r).End = false → r.Text = belowT X → WhyL W R X l → WhyL W R q (q :: l)
def cutT (t : ByteArray) : ByteArray := ⟨(t.data.toList.drop 6).toArray⟩
theorem cutT_below (X : ByteArray) : cutT (belowT X) = X := by
  unfold cutT belowT
  apply ByteArray.ext
  simp
theorem belowT_inj {X Y : ByteArray} (h : belowT X = belowT Y) : X = Y := by rw [← cutT_below X, h, cutT_below]
theorem spent_below (X : ByteArray) : spentT ≠ belowT X := by
  intro h
  have h1 := congrArg ByteArray.size h
  rw [belowT_size] at h1
  have : spentT.size = 5 := rfl
  omega
theorem WhyL.run {W : Web} {R : List Run} {q : ByteArray} {l : List ByteArray} (h : WhyL W R q l) : ∃ r, runOf R q = some r ∧ r.Over = true ∧ r.Fail = true := by
  cases h with
  | stop h1 h2 h3 _ => exact ⟨_, h1, h2, h3⟩
  | gone h1 h2 h3 _ _ _ _ => exact ⟨_, h1, h2, h3⟩
  | next h1 h2 h3 _ _ _ => exact ⟨_, h1, h2, h3⟩
theorem WhyL.pos {W : Web} {R : List Run} {q : ByteArray} {l : List ByteArray} (h : WhyL W R q l) : ∃ t, l = q :: t := by
  cases h with
  | stop h1 h2 h3 _ => exact ⟨_, rfl⟩
  | gone h1 h2 h3 _ _ _ _ => exact ⟨_, rfl⟩
  | next h1 h2 h3 _ _ _ => exact ⟨_, rfl⟩
/-- as a function -/
def whyF (W : Web) (R : List Run) : Nat → ByteArray → List ByteArray
  | 0, _ => []
  | n + 1, q => match runOf R q with
    | none => [q]
    | some r => if (stepOf W r).End = true ∨ r.Text = spentT then [q] else q :: whyF W R n (cutT r.Text)
theorem whyF_eq {W : Web} {R : List Run} {q : ByteArray} {l : List ByteArray} (h : WhyL W R q l) : ∀ n, l.length ≤ n → whyF W R n q = l := by
  induction h with
  | stop h1 h2 h3 h4 =>
    intro n hn
    obtain ⟨m, rfl⟩ : ∃ m, n = m + 1 := ⟨n - 1, by simp at hn; omega⟩
    unfold whyF; rw [h1]; simp only; rw [if_pos h4]
  | gone h1 h2 h3 h4 h5 h6 h7 =>
    intro n hn
    obtain ⟨m, rfl⟩ : ∃ m, n = m + 2 := ⟨n - 2, by simp at hn; omega⟩
    unfold whyF; rw [h1]; simp only
    rw [if_neg (by rw [h4, h5]; rintro (h | h); cases h; exact spent_below _ h.symm), h5, cutT_below]
    unfold whyF; rw [h7]
  | next h1 h2 h3 h4 h5 h6 ih =>
    intro n hn
    obtain ⟨m, rfl⟩ : ∃ m, n = m + 1 := ⟨n - 1, by simp at hn; omega⟩
    unfold whyF; rw [h1]; simp only
    rw [if_neg (by rw [h4, h5]; rintro (h | h); cases h; exact spent_below _ h.symm), h5, cutT_below, ih m (by simp at hn; omega)]
def whyL (W : Web) (R : List Run) (q : ByteArray) : List ByteArray := match runOf R q with
  | none => []
  | some r => if r.Over = true ∧ r.Fail = true then whyF W R 3000 q else []
theorem whyL_none {W : Web} {R : List Run} {q : ByteArray} (h : runOf R q = none) : whyL W R q = [] := by unfold whyL; rw [h]
theorem whyL_not {W : Web} {R : List Run} {q : ByteArray} {r : Run} (h : runOf R q = some r) (h2 : ¬(r.Over = true ∧ r.Fail = true)) : whyL W R q = [] := by unfold whyL; rw [h]; simp only; rw [if_neg h2]
theorem whyL_eq {W : Web} {R : List Run} {q : ByteArray} {l : List ByteArray} (h : WhyL W R q l) (hl : l.length ≤ 3000) : whyL W R q = l := by
  obtain ⟨r, h1, h2, h3⟩ := h.run
  unfold whyL
  rw [h1]; simp only
  rw [if_pos ⟨h2, h3⟩]
  exact whyF_eq h _ hl
theorem over_stays {W : Web} {R : List Run} {r x : Run} {q : ByteArray} (hd : r.Over = false) (hr : runOf R r.Name = some r) (hx : runOf R q = some x) (ho : x.Over = true) : runOf (doRun W R r) q = some x := by
  rw [runOf_doRun, hx]
  simp only
  rw [if_neg]
  intro e
  subst e
  rw [hr] at hx
  cases hx
  rw [hd] at ho; cases ho
theorem WhyL.do {W : Web} {R : List Run} {r : Run} (hd : r.Over = false) (hr : runOf R r.Name = some r) {q : ByteArray} {l : List ByteArray} (h : WhyL W R q l) : WhyL W (doRun W R r) q l := by
  induction h with
  | stop h1 h2 h3 h4 => exact .stop (over_stays hd hr h1 h2) h2 h3 h4
  | gone h1 h2 h3 h4 h5 h6 h7 =>
    refine .gone (over_stays hd hr h1 h2) h2 h3 h4 h5 h6 ?_
    rw [runOf_doRun, h7]
    simp only
    rw [if_neg (fun h => by rw [h6] at h; cases h.2)]
  | next h1 h2 h3 h4 h5 h6 ih => exact .next (over_stays hd hr h1 h2) h2 h3 h4 h5 ih
theorem arrive_at (a : Action) (r : Run) : (arrive a r).1.At = r.At := by unfold arrive; simp only; split <;> rfl
theorem arrive_over {a : Action} {r : Run} (ho : r.Over = false) (h : (arrive a r).1.Over = true) : (stepIn a r.At).End = true := by
  unfold arrive at h
  simp only at h
  split at h
  · assumption
  · simp only at h; rw [ho] at h; cases h
theorem Reach.mu_le {W : Web} {roots : List ByteArray} (hw : checkWeb W = 0) {R : List Run} (h : Reach W roots R) : mu W R ≤ mu W (begin_ W roots) := by
  induction h with
  | start => exact Nat.le_refl _
  | step hR hr hd ih => exact Nat.le_trans (Nat.le_of_lt (mu_do (hR.inv hw) hr hd)) ih
theorem runOf_next {W : Web} {R : List Run} {r : Run} (hI : Inv W R) (hr : r ∈ R) : runOf (doRun W R r) r.Name = some (nextOf W R r).1 := by
  rw [runOf_doRun, runOf_mem hI.asc hr]
  simp only
  rw [if_pos trivial]
theorem Reach.why {W : Web} {roots : List ByteArray} (hw : checkWeb W = 0) {R : List Run} (h : Reach W roots R) : ∀ x ∈ R, x.Over = true → x.Fail = true → ∃ l, WhyL W R x.Name l ∧ l.length + mu W R ≤ mu W (begin_ W roots) + 2 := by
  induction h with
  | start =>
    intro x hx ho
    rcases mem_wants _ hx with h | ⟨q, _, rfl, _⟩
    · cases h
    · cases ho
  | step hR hr hd ih =>
    rename_i R r
    have hI := hR.inv hw
    have hmu := mu_do hI hr hd
    have hml := hR.mu_le hw
    have hro := ready_over hd
    have hrr := runOf_mem hI.asc hr
    have hok := hI.ok r hr
    have one : ∀ (x : Run) (q : ByteArray), runOf (doRun W R r) q = some x → x.Over = true → x.Fail = true → ((stepOf W x).End = true ∨ x.Text = spentT) → ∃ l, WhyL W (doRun W R r) q l ∧ l.length + mu W (doRun W R r) ≤ mu W (begin_ W roots) + 2 :=
      fun x q h1 h2 h3 h4 => ⟨_, .stop h1 h2 h3 h4, by simp only [List.length_cons, List.length_nil]; omega⟩
    intro x hx ho hf
    rcases mem_do hx with rfl | ⟨hx, hne⟩ | ⟨q, _, rfl, _⟩
    · have hn := runOf_next hI hr
      rw [nextOf_name]
      -- the run that is done
      by_cases hv : r.Visits = 20
      · refine one _ _ hn ho hf (.inr ?_)
        unfold nextOf nextRun; rw [if_pos hv]
      · by_cases hv0 : r.Visits = 0
        · refine one _ _ hn ho hf (.inl ?_)
          have e : nextOf W R r = arrive (actOf W r.Name) r := by unfold nextOf nextRun; rw [if_neg hv, if_pos hv0]
          rw [e] at ho ⊢
          unfold stepOf
          rw [arrive_name, arrive_at]
          exact arrive_over hro ho
        · have e : nextOf W R r = goRun (actOf W r.Name) r (ansFor W R r) := by unfold nextOf nextRun; rw [if_neg hv, if_neg hv0]
          have hans := ready_ans hd hv0
          have hE := hok.mid hro (by have := hok.vis0; omega)
          by_cases hg : (followS (stepIn (actOf W r.Name) r.At) (ansFor W R r)).Over = true
          · have e2 : nextOf W R r = ({ r with Visits := r.Visits + 1, Over := true, Fail := true, Text := (followS (stepIn (actOf W r.Name) r.At) (ansFor W R r)).Text }, []) := by rw [e]; unfold goRun; rw [if_pos hg]
            obtain ⟨hl, hs⟩ := stepIn_eq hok.at1 hok.at0
            have hm : stepIn (actOf W r.Name) r.At ∈ (actOf W r.Name).Steps := by rw [hs]; exact List.getElem_mem hl
            have hlen : (ansFor W R r).length = (stepIn (actOf W r.Name) r.At).Asks.length := answersOf_len hans
            obtain ⟨i, hi, hfi, hT⟩ := (follow_ok (act_ok hw hok.web) hm hE hlen).1 hg
            obtain ⟨hi2, hxf⟩ := failIx_lt hfi
            have hq := answersOf_get hans i hi hi2
            obtain ⟨X, hX⟩ : ∃ X, (stepIn (actOf W r.Name) r.At).Asks[i] = X := ⟨_, rfl⟩
            rw [hX] at hT
            have hq2 : answerOf W R X = some (ansFor W R r)[i] := by rw [← hX]; exact hq
            have hT2 : (nextOf W R r).1.Text = belowT X := by rw [e2]; exact hT
            have hE2 : (stepOf W (nextOf W R r).1).End = false := by rw [e2]; exact hE
            unfold answerOf at hq2
            cases hN : hasN W.Nodes X with
            | false =>
              refine ⟨_, .gone hn ho hf hE2 hT2 hN ?_, by simp only [List.length_cons, List.length_nil]; omega⟩
              rw [runOf_none]
              intro y hy e3
              have := ((doRun_inv hw hI hr hd).ok y hy).web
              rw [e3, hN] at this; cases this
            | true =>
              rw [hN, if_pos rfl] at hq2
              cases hy : runOf R X with
              | none => rw [hy] at hq2; cases hq2
              | some y =>
                rw [hy] at hq2
                simp only [runAns] at hq2
                split at hq2
                · rename_i hyo
                  have hyf : y.Fail = true := by
                    have := congrArg Answer.Fail (Option.some.inj hq2)
                    simp only at this
                    rw [this]; exact hxf
                  obtain ⟨l, hl1, hl2⟩ := ih y (runOf_some hy).1 hyo hyf
                  rw [(runOf_some hy).2] at hl1
                  exact ⟨_, .next hn ho hf hE2 hT2 (hl1.do hro hrr), by simp only [List.length_cons]; omega⟩
                · cases hq2
          · have e2 : nextOf W R r = arrive (actOf W r.Name) { r with Texts := r.Texts ++ goodT (ansFor W R r), At := (followS (stepIn (actOf W r.Name) r.At) (ansFor W R r)).At } := by rw [e]; unfold goRun; rw [if_neg hg]
            refine one _ _ hn ho hf (.inl ?_)
            rw [e2] at ho ⊢
            unfold stepOf
            rw [arrive_name, arrive_at]
            exact arrive_over hro ho
    · obtain ⟨l, h1, h2⟩ := ih x hx ho hf
      exact ⟨l, h1.do hro hrr, by omega⟩
    · cases ho
end Go.Proofs.YtkpkfihaihoaeaaGreatDoor.M
end
section
set_option linter.unusedVariables false
set_option linter.unusedSimpArgs false
namespace Go.Proofs.YtkpkfihaihoaeaaGreatDoor.M
open Go.RowKit
def pfxB (s p : ByteArray) : Bool := decide (p.size ≤ s.size) && ((s.extract 0 p.size).toList == p.toList)
theorem HasPrefix0_calls (s p : ByteArray) (w : World) : Calls Tryz.prog 158 #[.string s, .string p] w fun e w' => e = .returned (.bool (pfxB s p)) ∧ w = w' := by
  by_cases h : p.size ≤ s.size
  · have e1 := Asd.mk (show pfxB s p = ((s.extract 0 p.size).toList == p.toList) by unfold pfxB; rw [decide_eq_true h]; rfl)
    go_enter Tryz.func158, Tryz.ntmps158
    go_wp2
    go_ret
    exact ⟨by rw [e1.out]; try simp, rfl⟩
  · have e1 := Asd.mk (show pfxB s p = false by unfold pfxB; rw [decide_eq_false h]; rfl)
    go_enter Tryz.func158, Tryz.ntmps158
    go_wp2
    go_ret
    exact ⟨by rw [e1.out]; try simp, rfl⟩
theorem HasPrefix_calls (s p : ByteArray) (w : World) : Calls Tryz.prog 99 #[.string s, .string p] w fun e w' => e = .returned (.bool (pfxB s p)) ∧ w = w' := by
  go_enter Tryz.func99, Tryz.ntmps99
  go_wp2_with fail
  refine (HasPrefix0_calls s p _).mono ?_
  rintro e w' ⟨rfl, rfl⟩
  go_wp2
  go_ret
  exact ⟨rfl, rfl⟩
def belowP : ByteArray := ⟨#[98, 101, 108, 111, 119, 32]⟩
theorem pfx_below (X : ByteArray) : pfxB (belowT X) belowP = true := by
  unfold pfxB
  rw [decide_eq_true (by rw [belowT_size]; show 6 ≤ _; omega), Bool.true_and, ba_eq]
  apply ByteArray.ext
  unfold belowT
  show ((⟨#[98, 101, 108, 111, 119, 32]⟩ ++ X : ByteArray).extract 0 6).data = belowP.data
  simp [belowP]
theorem pfx_spent : pfxB spentT belowP = false := by unfold pfxB; rfl
theorem ext_below (X : ByteArray) {n : Nat} (hn : n = (belowT X).size) : (belowT X).extract 6 n = X := by
  subst hn
  apply ByteArray.ext
  unfold belowT
  simp
  refine .inr ?_
  show X.size ≤ 6 + X.size - 6
  omega
end Go.Proofs.YtkpkfihaihoaeaaGreatDoor.M
end
section
set_option linter.unusedVariables false
set_option linter.unusedSimpArgs false
namespace Go.Proofs.YtkpkfihaihoaeaaGreatDoor.M
open Go.RowKit
def readyC (W : Web) (s : State) : List ByteArray := if validS W s = true then readyL W s.Runs else []
theorem readyC_yes {W : Web} {s : State} (h : validS W s = true) : readyC W s = readyL W s.Runs := if_pos h
theorem readyC_no {W : Web} {s : State} (h : validS W s = false) : readyC W s = [] := if_neg (by rw [h]; decide)
theorem strs_cnt_len (t : Nat) (xs : List ByteArray) : cnt (strsT t xs) = xs.length := by
  show cnts (xs.flatMap strC) = _
  induction xs with
  | nil => rfl
  | cons x xs ih => rw [List.flatMap_cons, cnts_append, ih, List.length_cons]; simp [strC, cnts, cnt]; omega
theorem readyC_cnt (t : Nat) (W : Web) (s : State) : cnt (strsT t (readyC W s)) ≤ 60 := by
  rw [strs_cnt_len]
  cases h : validS W s with
  | true => obtain ⟨hw, _, hR⟩ := validS_reach h; rw [readyC_yes h]; exact readyL_len hw hR
  | false => rw [readyC_no h]; simp
theorem State.cnt_le (t : Nat) (x : State) : cntl (x.c t) ≤ 6 * x.bk := by
  have h1 := strs_cnt 9 x.Roots
  have h2 := runs_cnt t Run.bk x.Runs (fun r _ => by unfold Run.bk bkS bsOf; omega)
  have e : cntl (x.c t) = cnt (strsT 9 x.Roots) + (cnt (RunsT t x.Runs) + 0) := rfl
  rw [e]
  unfold State.bk Run.bs
  unfold bsOf
  omega
set_option maxRecDepth 100000 in
set_option maxHeartbeats 2000000 in
theorem Ready_calls {tN tS tC t : Nat} (W : Web) (s : State) (w : World) {vs us : List Value} (hW : reps w (W.c tN tS tC) vs) (h : reps w (State.c t s) us) (hz : W.Sm) (hgl : 3 < w.heap.size) (hgt : w.cell? ⟨3, 15, none⟩ = some (.int .u8 4)) :
    Calls Tryz.prog 37 #[.agg vs.toArray, .agg us.toArray] w (MadeV w (strsT 9 (readyC W s))) := by
  obtain ⟨v0, rfl, h0⟩ := Web.ropen hW
  obtain ⟨A, c, rfl, _, _⟩ := rep_len h0
  obtain ⟨u0, u1, rfl, g0, g1⟩ := State.ropen h
  obtain ⟨D, k, rfl, _, _⟩ := rep_len g0
  obtain ⟨B, d, rfl, _, _⟩ := rep_len g1
  replace hW := Asd.mk hW
  replace h := Asd.mk h
  clear h0 g0 g1
  have HB := Asd.mk (below_al (below_al (Below.refl w.heap.size w) (.cells #[.slice A W.Nodes.length c] 34)) (.cells #[.slice D s.Roots.length k, .slice B s.Runs.length d] 38))
  go_enter Tryz.func37, Tryz.ntmps37
  go_wp2_with fail
  refine (load_calls W s _ (hW.out.below HB.out) (h.out.below HB.out) hz (by simp; omega) (cell_below HB.out hgt)).mono ?_
  rintro e w1 ⟨hb, ⟨hv, eg, F, lo, rfl, hlo, hE⟩ | ⟨hv, rfl⟩⟩
  · have hq := Asd.mk (readyC_yes hv)
    obtain ⟨hw, _, hR⟩ := validS_reach hv
    have hb1 := Asd.mk (below_st HB.out hb)
    replace hE := Asd.mk hE
    replace hR := Asd.mk hR
    clear hb hlo hv
    go_wp2_with fail
    refine (ready_calls W s.Roots s.Runs eg F _ hE.out hw (hR.out.inv hw)).mono ?_
    rintro e w2 ⟨v, rfl, hM, hb⟩
    have hb2 := Asd.mk (below_st hb1.out hb)
    have hL := Asd.mk (hM.lie.mono hb1.out.size)
    clear hb hM
    go_wp2
    go_ret
    rw [hq.out]
    exact ⟨_, rfl, hL.out.made, hb2.out⟩
  · have hq := Asd.mk (readyC_no hv)
    have hb1 := Asd.mk (below_st HB.out hb)
    clear hb hv
    go_wp2
    go_ret
    rw [hq.out]
    exact ⟨_, rfl, Lie.made (Lie.nil _ _ _ _), hb1.out⟩
set_option maxRecDepth 100000 in
set_option maxHeartbeats 2000000 in
theorem sReady_calls {tN tS tC t : Nat} (W : Web) (s : State) (w : World) {vs us : List Value} (hW : reps w (W.c tN tS tC) vs) (h : reps w (State.c t s) us) (hz : W.Sm) :
    Calls Tryz.prog 36 #[.agg vs.toArray, .agg us.toArray] w (MadeV w (strsT 9 (readyC W s))) := by
  obtain ⟨v0, rfl, h0⟩ := Web.ropen hW
  obtain ⟨A, c, rfl, _, _⟩ := rep_len h0
  obtain ⟨u0, u1, rfl, g0, g1⟩ := State.ropen h
  obtain ⟨D, k, rfl, _, _⟩ := rep_len g0
  obtain ⟨B, d, rfl, _, _⟩ := rep_len g1
  replace hW := Asd.mk hW
  replace h := Asd.mk h
  clear h0 g0 g1
  have HB := Asd.mk (below_al (below_al (Below.refl w.heap.size w) (.cells #[.slice A W.Nodes.length c] 34)) (.cells #[.slice D s.Roots.length k, .slice B s.Runs.length d] 38))
  obtain ⟨g, hg⟩ : ∃ g, validS W s = g := ⟨_, rfl⟩
  go_enter Tryz.func36, Tryz.ntmps36
  go_wp2_with fail
  refine (sValidState_calls W s _ (hW.out.below HB.out) (h.out.below HB.out) hz).mono ?_
  rw [hg]
  rintro e w1 ⟨rfl, hb⟩
  obtain ⟨hcx, hfx⟩ := bcell hb
  have hzz : w.heap.size + 1 < w1.heap.size := by have := hb.size; simp at this; omega
  have hb1 := Asd.mk (below_st HB.out hb)
  have a0 : w1.cell? ⟨w.heap.size, 0, none⟩ = some (.slice A W.Nodes.length c) := by rw [hcx _ _ (by simp; omega)]; go_simp
  have b0 : w1.cell? ⟨w.heap.size + 1, 0, none⟩ = some (.slice D s.Roots.length k) := by rw [hcx _ _ (by simp)]; go_simp
  have b1 : w1.cell? ⟨w.heap.size + 1, 1, none⟩ = some (.slice B s.Runs.length d) := by rw [hcx _ _ (by simp)]; go_simp
  clear hb hcx hfx
  cases g with
  | true =>
    have hq := Asd.mk (readyC_yes hg)
    obtain ⟨hw, _, hR⟩ := validS_reach hg
    replace hR := Asd.mk hR
    clear hg
    go_wp2_with fail
    refine (l4Ready_calls W s _ (hW.out.below hb1.out) (h.out.below hb1.out) hw (hR.out.inv hw)).mono ?_
    rintro e w2 ⟨v, rfl, hM, hb⟩
    have hb2 := Asd.mk (below_st hb1.out hb)
    have hL := Asd.mk (hM.lie.mono hb1.out.size)
    clear hb hM
    go_wp2
    go_ret
    rw [hq.out]
    exact ⟨_, rfl, hL.out.made, hb2.out⟩
  | false =>
    have hq := Asd.mk (readyC_no hg)
    clear hg
    go_wp2
    go_ret
    rw [hq.out]
    exact ⟨_, rfl, Lie.made ((Lie.empty w1 _ _).mono hb1.out.size), by repeat (first | (with_reducible exact Below.refl _ _) | (with_reducible exact hb1.out) | (with_reducible refine below_al ?_ _) | (with_reducible refine below_dr ?_ _) | (with_reducible refine below_d1 ?_) | ((with_reducible refine Below.setCell ?_ ?_ _); rotate_left; (next => first | (simp; done) | (simp; omega) | omega)))⟩
end Go.Proofs.YtkpkfihaihoaeaaGreatDoor.M
end
section
set_option linter.unusedVariables false
set_option linter.unusedSimpArgs false
namespace Go.Proofs.YtkpkfihaihoaeaaGreatDoor.M
open Go.RowKit
theorem Lie.emptyB (w : World) (e sz : Nat) {b : Nat} (hb : w.heap.size = b) : Lie w.heap.size (w.alloc (.cells #[] e)) (.l e sz 0 []) (.slice (some ⟨b, 0, none⟩) 0 0) := hb ▸ Lie.empty w e sz
theorem own_lit1 (w : World) (q : ByteArray) : own (w.alloc (.cells #[.string q] 9)) (strsT 9 [q]) (.slice (some ⟨w.heap.size, 0, none⟩) 1 1) [w.heap.size] := by
  simp only [strsT, tl, own]
  refine .inl ⟨[.string q], [], World.ownsRow_lit w #[.string q] 1 (Nat.zero_le _) (by decide) rfl, by simp [owns, strC, own], by simp [Value.ownBlock], fun k _ hk => by cases hk⟩
theorem Lie.lit1 (w : World) (q : ByteArray) : Lie w.heap.size (w.alloc (.cells #[.string q] 9)) (strsT 9 [q]) (.slice (some ⟨w.heap.size, 0, none⟩) 1 1) := ⟨_, own_lit1 w q, by simp, by simp⟩
/-- append of one string onto texts of one's own -/
theorem appG {w : World} {ops : Array Oper} {rest : List Oper} {o : Oper} {a : Act} {Q : Exit → Act → World → Prop} (hgd : o.guard = none) {s x : Operand} {t : TypeId} (ho : o.op = .call { callee := .builtin .append, args := #[s, x], argTypes := #[t, t] }) {by_ : Nat} {z : Value} (ht : Tryz.prog.underlying t = some (.slice 9))
    (hi : (Tryz.prog.info? 9).map (fun i => (i.zero, i.size, i.bytes)) = some (some z, 1, by_)) (hzs : z.cells.size = 1) {v : Value} (hs : a.eval s = v) {xs : List ByteArray} {q : ByteArray} {F : List Nat} (hown : own w (strsT 9 xs) v F)
    {B : Nat} (hx : a.eval x = .slice (some ⟨B, 0, none⟩) 1 1) {ty : TypeId} {fr : Nat × Nat} (hB : w.heap[B]? = some (.cells #[.string q] ty fr)) (h63 : xs.length + 1 ≤ maxLen) (hbytes : (xs.length + 1) * by_ ≤ 140737488355328)
    (h : ∀ v' w' F2, own w' (strsT 9 (xs ++ [q])) v' F2 → (∀ k ∈ F2, k ∈ F ∨ k = w.heap.size) → (F.Nodup → F2.Nodup) → MFr F w w' → wpList Tryz.prog ops Q rest (a.put o.dst v') w') :
    wpList Tryz.prog ops Q (o :: rest) a w := by
  refine wpList_plain hgd fun K hK => ?_
  have hq : owns w [T.s q] [.string q] [] := by simp [owns, own]
  obtain ⟨v', w', F2, hr, h2, h3, h4, _, row, h6, h7⟩ := run_app (P := Tryz.prog) (w := w) t o.type ht hi hzs (by decide) (m := 1) (c := 1) (A := some ⟨B, 0, none⟩) hown (fun h => by cases h) (fun _ => ⟨_, rfl, fun j u hj => World.news_of_block hB j u (by simpa using hj)⟩) rfl hq (fun k _ _ hk => by cases hk) h63 hbytes
  unfold Oper.wp execOp
  simp only [ho, resolve, invoke, builtin, Sem.run_bind, Sem.run_pure, Result.andThen_ok, List.map_toArray, List.map_cons, List.map_nil, hs, hx, hr]
  exact hK _ _ (h v' w' F2 (by rw [strsT_snoc]; exact h2) (fun k hk => (h3 k hk).elim .inl (fun h => h.elim (fun h => by cases h) .inr)) (fun hn => h4 hn List.nodup_nil (fun k hk => by cases hk)) ⟨h6.os, h6.tape, h6.output, h6.size, fun b hb hbn => h6.block b hb (fun he => hbn (h7 b he.symm))⟩)
end Go.Proofs.YtkpkfihaihoaeaaGreatDoor.M
end
section
set_option linter.unusedVariables false
set_option linter.unusedSimpArgs false
namespace Go.Proofs.YtkpkfihaihoaeaaGreatDoor.M
open Go.RowKit
/-- the pick for the unit of number n -/
def pickI (picks : List Int) (n : Nat) : Nat := if picks = [] then 0 else (picks.getD (n % picks.length) 0).toNat
def pickN (W : Web) (picks : List Int) (R : List Run) (n : Nat) : ByteArray := (readyL W R).getD (pickI picks n % (readyL W R).length) ⟨#[]⟩
def ordR (W : Web) (picks : List Int) : Nat → List Run → List ByteArray → List Run × List ByteArray
  | 0, R, d => (R, d)
  | f + 1, R, d => if readyL W R = [] then (R, d) else ordR W picks f (doR W R (pickN W picks R d.length)) (d ++ [pickN W picks R d.length])
def ordE (W : Web) (picks : List Int) (R : List Run) (d : List ByteArray) : List Run × List ByteArray := ordR W picks (mu W R) R d
theorem pick_at {W : Web} {R : List Run} (h : readyL W R ≠ []) (picks : List Int) (n : Nat) : ∃ hk : pickI picks n % (readyL W R).length < (readyL W R).length, pickN W picks R n = (readyL W R)[pickI picks n % (readyL W R).length] := by
  have hl : 0 < (readyL W R).length := List.length_pos_iff.2 h
  have hk := Nat.mod_lt (pickI picks n) hl
  exact ⟨hk, by unfold pickN; simp [List.getD_eq_getElem?_getD, hk]⟩
theorem pick_run {W : Web} {R : List Run} (hR : AscR R) (h : readyL W R ≠ []) (picks : List Int) (n : Nat) : ∃ r, runOf R (pickN W picks R n) = some r ∧ isReady W R r = true ∧ r ∈ R := by
  obtain ⟨hk, e⟩ := pick_at h picks n
  obtain ⟨r, hr, hd⟩ := (readyL_rdy hR).2 _ (List.getElem_mem hk)
  rw [← e] at hr
  exact ⟨r, hr, hd, (runOf_some hr).1⟩
theorem doR_run {W : Web} {R : List Run} {q : ByteArray} {r : Run} (h : runOf R q = some r) : doR W R q = doRun W R r := by unfold doR; rw [h]
theorem reach_pick {W : Web} {roots : List ByteArray} {R : List Run} (hw : checkWeb W = 0) (hR : Reach W roots R) (h : readyL W R ≠ []) (picks : List Int) (n : Nat) : Reach W roots (doR W R (pickN W picks R n)) ∧ mu W (doR W R (pickN W picks R n)) < mu W R := by
  obtain ⟨r, hr, hd, hm⟩ := pick_run (hR.inv hw).asc h picks n
  rw [doR_run hr]
  exact ⟨.step hR hm hd, mu_do (hR.inv hw) hm hd⟩
theorem ordR_more {W : Web} {roots : List ByteArray} {picks : List Int} (hw : checkWeb W = 0) : ∀ (n m : Nat) {R : List Run} {d : List ByteArray}, Reach W roots R → mu W R ≤ n → mu W R ≤ m → ordR W picks n R d = ordR W picks m R d
  | 0, 0, _, _, _, _, _ => rfl
  | 0, m + 1, R, d, h, h1, h2 => by
    unfold ordR
    split
    · rfl
    · rename_i hn
      have := (reach_pick hw h hn picks d.length).2
      omega
  | n + 1, 0, R, d, h, h1, h2 => by
    unfold ordR
    split
    · rfl
    · rename_i hn
      have := (reach_pick hw h hn picks d.length).2
      omega
  | n + 1, m + 1, R, d, h, h1, h2 => by
    unfold ordR
    split
    · rfl
    · rename_i hn
      obtain ⟨g1, g2⟩ := reach_pick hw h hn picks d.length
      exact ordR_more hw n m g1 (by omega) (by omega)
theorem ordE_end {W : Web} {picks : List Int} {R : List Run} {d : List ByteArray} (h : readyL W R = []) : ordE W picks R d = (R, d) := by
  unfold ordE
  cases mu W R with
  | zero => rfl
  | succ n => unfold ordR; rw [if_pos h]
theorem ordE_go {W : Web} {roots : List ByteArray} {picks : List Int} {R : List Run} {d : List ByteArray} (hw : checkWeb W = 0) (hR : Reach W roots R) (h : readyL W R ≠ []) : ordE W picks R d = ordE W picks (doR W R (pickN W picks R d.length)) (d ++ [pickN W picks R d.length]) := by
  obtain ⟨g1, g2⟩ := reach_pick hw hR h picks d.length
  unfold ordE
  rw [ordR_more hw _ (mu W R + 1) hR (Nat.le_refl _) (by omega)]
  conv => lhs; unfold ordR
  rw [if_neg h]
  exact ordR_more hw _ _ g1 (by omega) (Nat.le_refl _)
/-- the state of an order on its way -/
structure OrdS (W : Web) (roots : List ByteArray) (picks : List Int) (T : List Run × List ByteArray) (R : List Run) (d : List ByteArray) : Prop where
  reach : Reach W roots R
  goal : ordE W picks R d = T
  len : d.length + mu W R ≤ mu W (begin_ W roots)
theorem OrdS.start (W : Web) (roots : List ByteArray) (picks : List Int) : OrdS W roots picks (ordE W picks (begin_ W roots) []) (begin_ W roots) [] := ⟨.start, rfl, by simp⟩
theorem OrdS.go {W : Web} {roots : List ByteArray} {picks : List Int} {T : List Run × List ByteArray} {R : List Run} {d : List ByteArray} (hw : checkWeb W = 0) (h : OrdS W roots picks T R d) (hn : readyL W R ≠ []) : OrdS W roots picks T (doR W R (pickN W picks R d.length)) (d ++ [pickN W picks R d.length]) := by
  obtain ⟨g1, g2⟩ := reach_pick hw h.reach hn picks d.length
  refine ⟨g1, by rw [← ordE_go hw h.reach hn]; exact h.goal, ?_⟩
  have := h.len
  simp only [List.length_append, List.length_cons, List.length_nil]
  omega
theorem OrdS.stop {W : Web} {roots : List ByteArray} {picks : List Int} {T : List Run × List ByteArray} {R : List Run} {d : List ByteArray} (h : OrdS W roots picks T R d) (hn : readyL W R = []) : T = (R, d) := by rw [← h.goal, ordE_end hn]
theorem mu_le {W : Web} (hw : checkWeb W = 0) (R : List Run) : mu W R ≤ 2700 := by
  have h1 := (checkWeb_ok hw).1
  have key : ∀ (l : List Node), (l.map fun n => wt (runOf R n.Name)).sum ≤ 45 * l.length := by
    intro l
    induction l with
    | nil => simp
    | cons n l ih =>
      have : wt (runOf R n.Name) ≤ 45 := by
        unfold wt
        split
        · omega
        · split <;> omega
      simp only [List.map_cons, List.sum_cons, List.length_cons]; omega
  have := key W.Nodes
  unfold mu; omega
end Go.Proofs.YtkpkfihaihoaeaaGreatDoor.M
end
section
set_option linter.unusedVariables false
set_option linter.unusedSimpArgs false
namespace Go.Proofs.YtkpkfihaihoaeaaGreatDoor.M
open Go.RowKit
def whyC (W : Web) (s : State) (q : ByteArray) : List ByteArray := if validS W s = true then whyL W s.Runs q else []
theorem whyC_yes {W : Web} {s : State} {q : ByteArray} (h : validS W s = true) : whyC W s q = whyL W s.Runs q := if_pos h
theorem whyC_no {W : Web} {s : State} {q : ByteArray} (h : validS W s = false) : whyC W s q = [] := if_neg (by rw [h]; decide)
/-- where the walk stands: what is told so far, the name that was told last, its run -/
inductive WhyAt (W : Web) (R : List Run) (L : List Ent) (T : List ByteArray) : List ByteArray → Value → Nat → Prop where
  | run {pre l : List ByteArray} {q : ByteArray} {x : Ent} : x ∈ L → x.r.Name = q → WhyL W R q (q :: l) → pre ++ q :: l = T → WhyAt W R L T (pre ++ [q]) (.pointer (some ⟨x.b, 0, none⟩)) (l.length + 1)
  | none : WhyAt W R L T T (.pointer none) 0
set_option maxRecDepth 100000 in
set_option maxHeartbeats 8000000 in
theorem Why_calls {tN tS tC t : Nat} (W : Web) (s : State) (q : ByteArray) (w : World) {vs us : List Value} (hW : reps w (W.c tN tS tC) vs) (h : reps w (State.c t s) us) (hz : W.Sm) (hgl : 3 < w.heap.size) (hgt : w.cell? ⟨3, 15, none⟩ = some (.int .u8 4)) :
    Calls Tryz.prog 46 #[.agg vs.toArray, .agg us.toArray, .string q] w (MadeV w (strsT 9 (whyC W s q))) := by
  obtain ⟨v0, rfl, h0⟩ := Web.ropen hW
  obtain ⟨A, c, rfl, _, _⟩ := rep_len h0
  obtain ⟨u0, u1, rfl, g0, g1⟩ := State.ropen h
  obtain ⟨D, k, rfl, _, _⟩ := rep_len g0
  obtain ⟨B, d, rfl, _, _⟩ := rep_len g1
  replace hW := Asd.mk hW
  replace h := Asd.mk h
  clear h0 g0 g1
  have HB := Asd.mk (below_al (below_al (Below.refl w.heap.size w) (.cells #[.slice A W.Nodes.length c] 34)) (.cells #[.slice D s.Roots.length k, .slice B s.Runs.length d] 38))
  go_enter Tryz.func46, Tryz.ntmps46
  go_wp2_with fail
  refine (load_calls W s _ (hW.out.below HB.out) (h.out.below HB.out) hz (by simp; omega) (cell_below HB.out hgt)).mono ?_
  rintro e w1 ⟨hb, ⟨hv, eg, F, lo, rfl, hlo, hE⟩ | ⟨hv, rfl⟩⟩
  rotate_left
  · have hq := Asd.mk (whyC_no (q := q) hv)
    have hb1 := Asd.mk (below_st HB.out hb)
    clear hb hv
    go_wp2
    go_ret
    rw [hq.out]
    exact ⟨_, rfl, Lie.made (Lie.nil _ _ _ _), hb1.out⟩
  have hq := Asd.mk (whyC_yes (q := q) hv)
  obtain ⟨hw, _, hR⟩ := validS_reach hv
  have hb1 := Asd.mk (below_st HB.out hb)
  have hI := Asd.mk (hR.inv hw)
  obtain ⟨ha, hn⟩ := web_asc hw
  replace ha := Asd.mk ha
  obtain ⟨m, nv, rv, L, Fr, W0, tN, tS, tC, hX⟩ := hE
  obtain ⟨A1, c1, B1, d1, rfl, rfl, _, _, x0, x1, x2⟩ := hX.cells
  clear hb hlo hv
  cases hr : runOf s.Runs q with
  | none =>
    have hl := hX.run_none hr
    have e1 := Asd.mk (whyL_none (W := W) hr)
    clear hX hr
    go_wp2
    go_ret
    rw [hq.out, e1.out]
    exact ⟨_, rfl, Lie.made (Lie.nil _ _ _ _), by repeat (first | (with_reducible exact Below.refl _ _) | (with_reducible exact hb1.out) | (with_reducible refine below_al ?_ _) | (with_reducible refine below_dr ?_ _) | (with_reducible refine below_d1 ?_) | ((with_reducible refine Below.setCell ?_ ?_ _); rotate_left; (next => first | (simp; done) | (simp; omega) | omega)))⟩
  | some r =>
    obtain ⟨x, hx, hxr, hl⟩ := hX.run_some hr
    have hRb := (hX.runs x hx).1
    rw [hxr] at hRb
    have y1 : w1.cell? ⟨x.b, 1, none⟩ = some (.bool r.Over) := cellOf hRb (i := 1) rfl
    have y2 : w1.cell? ⟨x.b, 2, none⟩ = some (.bool r.Fail) := cellOf hRb (i := 2) rfl
    clear hRb
    by_cases ho : r.Over = true
    rotate_left
    · have e1 := Asd.mk (whyL_not (W := W) hr (fun h => ho h.1))
      replace ho := Bool.eq_false_iff.2 ho
      rw [ho] at y1
      clear hX hr hxr y2
      go_wp2
      go_ret
      rw [hq.out, e1.out]
      exact ⟨_, rfl, Lie.made (Lie.nil _ _ _ _), by repeat (first | (with_reducible exact Below.refl _ _) | (with_reducible exact hb1.out) | (with_reducible refine below_al ?_ _) | (with_reducible refine below_dr ?_ _) | (with_reducible refine below_d1 ?_) | ((with_reducible refine Below.setCell ?_ ?_ _); rotate_left; (next => first | (simp; done) | (simp; omega) | omega)))⟩
    rw [ho] at y1
    by_cases hf : r.Fail = true
    rotate_left
    · have e1 := Asd.mk (whyL_not (W := W) hr (fun h => hf h.2))
      replace hf := Bool.eq_false_iff.2 hf
      rw [hf] at y2
      clear hX hr hxr
      go_wp2
      go_ret
      rw [hq.out, e1.out]
      exact ⟨_, rfl, Lie.made (Lie.nil _ _ _ _), by repeat (first | (with_reducible exact Below.refl _ _) | (with_reducible exact hb1.out) | (with_reducible refine below_al ?_ _) | (with_reducible refine below_dr ?_ _) | (with_reducible refine below_d1 ?_) | ((with_reducible refine Below.setCell ?_ ?_ _); rotate_left; (next => first | (simp; done) | (simp; omega) | omega)))⟩
    rw [hf] at y2
    obtain ⟨T, hT, hTl⟩ := hR.why hw r (runOf_some hr).1 ho hf
    rw [(runOf_some hr).2] at hT
    have hTl2 : T.length ≤ 2702 := by have := mu_le hw (begin_ W s.Roots); omega
    have e1 := Asd.mk (whyL_eq hT (by omega))
    obtain ⟨T0, rfl⟩ := hT.pos
    have hat := Asd.mk (show WhyAt W s.Runs L (q :: T0) [q] (.pointer (some ⟨x.b, 0, none⟩)) (T0.length + 1) from WhyAt.run (pre := []) hx (by rw [hxr]; exact (runOf_some hr).2) hT rfl)
    have hX := Asd.mk hX
    replace hR := Asd.mk hR
    clear hr hxr hTl hx hT ho hf
    go_upto_region 8 with (fail)
    go_loopg [8, 9] (T0.length + 2) (fun kx s8 s9 wx => ∃ (xs : List ByteArray) (kk : Nat), WhyAt W s.Runs L (q :: T0) xs s8 kk ∧ kk + 1 ≤ kx ∧ Lie w1.heap.size wx (strsT 9 xs) s9 ∧ xs.length ≤ 2702 ∧ Below w1.heap.size w1 wx)
    case atStart => exact ⟨[q], _, hat.out, by omega, Lie.lit1 _ _, by simp, by repeat (first | (with_reducible exact Below.refl _ _) | (with_reducible exact Below.refl _ _) | (with_reducible refine below_al ?_ _) | (with_reducible refine below_dr ?_ _) | (with_reducible refine below_d1 ?_) | ((with_reducible refine Below.setCell ?_ ?_ _); rotate_left; (next => first | (simp; done) | (simp; omega) | omega)))⟩
    case round =>
      obtain ⟨xs, kk, hat, hkk, hL, hxl, hbr⟩ := hrel
      have hbw := Asd.mk (below_st hb1.out hbr)
      cases hat with
      | none =>
        replace hL := Asd.mk hL
        go_upto_region 8 with (fail)
        refine wp_region_held_drew (S := fun Z => True) (by kernel_rfl) trivial (fun hHeld => ?_)
        ((refine wpAnyH_take (i := 0) (v := ?_) rfl (by kernel_rfl) (by kernel_rfl) (by kernel_rfl) (fun _ _ _ h => h) (Or.inl ⟨by rfl, ?_⟩) (by assumption) ?_; rotate_left; (next => ((intro X hX; (try dsimp only at hX); go_simp); try with_reducible rfl))); (try simp only [Act.put, List.getElem_toArray, List.getElem_cons_succ, List.getElem_cons_zero, List.setIfInBounds_toArray, List.set_cons_zero, List.set_cons_succ]); (refine wpAnyH_take (i := 1) (v := ?_) rfl (by kernel_rfl) (by kernel_rfl) (by kernel_rfl) (fun _ _ _ h => h) (Or.inl ⟨by rfl, ?_⟩) (by assumption) ?_; rotate_left; (next => ((intro X hX; (try dsimp only at hX); go_simp); try with_reducible rfl))); (try simp only [Act.put, List.getElem_toArray, List.getElem_cons_succ, List.getElem_cons_zero, List.setIfInBounds_toArray, List.set_cons_zero, List.set_cons_succ]); (refine wpAnyH_take (i := 2) (v := ?_) rfl (by kernel_rfl) (by kernel_rfl) (by kernel_rfl) (fun _ _ _ h => h) (Or.inl ⟨by rfl, ?_⟩) (by assumption) ?_; rotate_left; (next => ((intro X hX; (try dsimp only at hX); go_simp); try with_reducible rfl))); (try simp only [Act.put, List.getElem_toArray, List.getElem_cons_succ, List.getElem_cons_zero, List.setIfInBounds_toArray, List.set_cons_zero, List.set_cons_succ]))
        ((refine wpAnyH_take (i := 3) (v := undef) rfl (by kernel_rfl) (by kernel_rfl) (by kernel_rfl) (fun _ _ _ h => h) (Or.inr ⟨by rfl, rfl⟩) (by assumption) ?_); (try simp only [Act.put, List.getElem_toArray, List.getElem_cons_succ, List.getElem_cons_zero, List.setIfInBounds_toArray, List.set_cons_zero, List.set_cons_succ]); (refine wpAnyH_take (i := 4) (v := undef) rfl (by kernel_rfl) (by kernel_rfl) (by kernel_rfl) (fun _ _ _ h => h) (Or.inr ⟨by rfl, rfl⟩) (by assumption) ?_); (try simp only [Act.put, List.getElem_toArray, List.getElem_cons_succ, List.getElem_cons_zero, List.setIfInBounds_toArray, List.set_cons_zero, List.set_cons_succ]); (refine wpAnyH_take (i := 5) (v := undef) rfl (by kernel_rfl) (by kernel_rfl) (by kernel_rfl) (fun _ _ _ h => h) (Or.inr ⟨by rfl, rfl⟩) (by assumption) ?_); (try simp only [Act.put, List.getElem_toArray, List.getElem_cons_succ, List.getElem_cons_zero, List.setIfInBounds_toArray, List.set_cons_zero, List.set_cons_succ]); (refine wpAnyH_take (i := 6) (v := undef) rfl (by kernel_rfl) (by kernel_rfl) (by kernel_rfl) (fun _ _ _ h => h) (Or.inr ⟨by rfl, rfl⟩) (by assumption) ?_); (try simp only [Act.put, List.getElem_toArray, List.getElem_cons_succ, List.getElem_cons_zero, List.setIfInBounds_toArray, List.set_cons_zero, List.set_cons_succ]); (refine wpAnyH_take (i := 7) (v := undef) rfl (by kernel_rfl) (by kernel_rfl) (by kernel_rfl) (fun _ _ _ h => h) (Or.inr ⟨by rfl, rfl⟩) (by assumption) ?_); (try simp only [Act.put, List.getElem_toArray, List.getElem_cons_succ, List.getElem_cons_zero, List.setIfInBounds_toArray, List.set_cons_zero, List.set_cons_succ]); (refine wpAnyH_take (i := 8) (v := undef) rfl (by kernel_rfl) (by kernel_rfl) (by kernel_rfl) (fun _ _ _ h => h) (Or.inr ⟨by rfl, rfl⟩) (by assumption) ?_); (try simp only [Act.put, List.getElem_toArray, List.getElem_cons_succ, List.getElem_cons_zero, List.setIfInBounds_toArray, List.set_cons_zero, List.set_cons_succ]); (refine wpAnyH_take (i := 9) (v := undef) rfl (by kernel_rfl) (by kernel_rfl) (by kernel_rfl) (fun _ _ _ h => h) (Or.inr ⟨by rfl, rfl⟩) (by assumption) ?_); (try simp only [Act.put, List.getElem_toArray, List.getElem_cons_succ, List.getElem_cons_zero, List.setIfInBounds_toArray, List.set_cons_zero, List.set_cons_succ]); (refine wpAnyH_take (i := 10) (v := undef) rfl (by kernel_rfl) (by kernel_rfl) (by kernel_rfl) (fun _ _ _ h => h) (Or.inr ⟨by rfl, rfl⟩) (by assumption) ?_); (try simp only [Act.put, List.getElem_toArray, List.getElem_cons_succ, List.getElem_cons_zero, List.setIfInBounds_toArray, List.set_cons_zero, List.set_cons_succ]); (refine wpAnyH_take (i := 11) (v := undef) rfl (by kernel_rfl) (by kernel_rfl) (by kernel_rfl) (fun _ _ _ h => h) (Or.inr ⟨by rfl, rfl⟩) (by assumption) ?_); (try simp only [Act.put, List.getElem_toArray, List.getElem_cons_succ, List.getElem_cons_zero, List.setIfInBounds_toArray, List.set_cons_zero, List.set_cons_succ]); (refine wpAnyH_take (i := 12) (v := undef) rfl (by kernel_rfl) (by kernel_rfl) (by kernel_rfl) (fun _ _ _ h => h) (Or.inr ⟨by rfl, rfl⟩) (by assumption) ?_); (try simp only [Act.put, List.getElem_toArray, List.getElem_cons_succ, List.getElem_cons_zero, List.setIfInBounds_toArray, List.set_cons_zero, List.set_cons_succ]); (refine wpAnyH_take (i := 13) (v := undef) rfl (by kernel_rfl) (by kernel_rfl) (by kernel_rfl) (fun _ _ _ h => h) (Or.inr ⟨by rfl, rfl⟩) (by assumption) ?_); (try simp only [Act.put, List.getElem_toArray, List.getElem_cons_succ, List.getElem_cons_zero, List.setIfInBounds_toArray, List.set_cons_zero, List.set_cons_succ]); (refine wpAnyH_take (i := 14) (v := undef) rfl (by kernel_rfl) (by kernel_rfl) (by kernel_rfl) (fun _ _ _ h => h) (Or.inr ⟨by rfl, rfl⟩) (by assumption) ?_); (try simp only [Act.put, List.getElem_toArray, List.getElem_cons_succ, List.getElem_cons_zero, List.setIfInBounds_toArray, List.set_cons_zero, List.set_cons_succ]); (refine wpAnyH_take (i := 15) (v := undef) rfl (by kernel_rfl) (by kernel_rfl) (by kernel_rfl) (fun _ _ _ h => h) (Or.inr ⟨by rfl, rfl⟩) (by assumption) ?_); (try simp only [Act.put, List.getElem_toArray, List.getElem_cons_succ, List.getElem_cons_zero, List.setIfInBounds_toArray, List.set_cons_zero, List.set_cons_succ]); (refine wpAnyH_take (i := 16) (v := undef) rfl (by kernel_rfl) (by kernel_rfl) (by kernel_rfl) (fun _ _ _ h => h) (Or.inr ⟨by rfl, rfl⟩) (by assumption) ?_); (try simp only [Act.put, List.getElem_toArray, List.getElem_cons_succ, List.getElem_cons_zero, List.setIfInBounds_toArray, List.set_cons_zero, List.set_cons_succ]); (refine wpAnyH_take (i := 17) (v := undef) rfl (by kernel_rfl) (by kernel_rfl) (by kernel_rfl) (fun _ _ _ h => h) (Or.inr ⟨by rfl, rfl⟩) (by assumption) ?_); (try simp only [Act.put, List.getElem_toArray, List.getElem_cons_succ, List.getElem_cons_zero, List.setIfInBounds_toArray, List.set_cons_zero, List.set_cons_succ]))
        ((refine wpAnyH_take (i := 18) (v := ?_) rfl (by kernel_rfl) (by kernel_rfl) (by kernel_rfl) (fun _ _ _ h => h) (Or.inl ⟨by rfl, ?_⟩) (by assumption) ?_; rotate_left; (next => ((intro X hX; (try dsimp only at hX); go_simp); try with_reducible rfl))); (try simp only [Act.put, List.getElem_toArray, List.getElem_cons_succ, List.getElem_cons_zero, List.setIfInBounds_toArray, List.set_cons_zero, List.set_cons_succ]); (refine wpAnyH_take (i := 19) (v := ?_) rfl (by kernel_rfl) (by kernel_rfl) (by kernel_rfl) (fun _ _ _ h => h) (Or.inl ⟨by rfl, ?_⟩) (by assumption) ?_; rotate_left; (next => ((intro X hX; (try dsimp only at hX); go_simp); try with_reducible rfl))); (try simp only [Act.put, List.getElem_toArray, List.getElem_cons_succ, List.getElem_cons_zero, List.setIfInBounds_toArray, List.set_cons_zero, List.set_cons_succ]))
        ((refine wpAnyH_take (i := 20) (v := undef) rfl (by kernel_rfl) (by kernel_rfl) (by kernel_rfl) (fun _ _ _ h => h) (Or.inr ⟨by rfl, rfl⟩) (by assumption) ?_); (try simp only [Act.put, List.getElem_toArray, List.getElem_cons_succ, List.getElem_cons_zero, List.setIfInBounds_toArray, List.set_cons_zero, List.set_cons_succ]); (refine wpAnyH_take (i := 21) (v := undef) rfl (by kernel_rfl) (by kernel_rfl) (by kernel_rfl) (fun _ _ _ h => h) (Or.inr ⟨by rfl, rfl⟩) (by assumption) ?_); (try simp only [Act.put, List.getElem_toArray, List.getElem_cons_succ, List.getElem_cons_zero, List.setIfInBounds_toArray, List.set_cons_zero, List.set_cons_succ]); (refine wpAnyH_take (i := 22) (v := undef) rfl (by kernel_rfl) (by kernel_rfl) (by kernel_rfl) (fun _ _ _ h => h) (Or.inr ⟨by rfl, rfl⟩) (by assumption) ?_); (try simp only [Act.put, List.getElem_toArray, List.getElem_cons_succ, List.getElem_cons_zero, List.setIfInBounds_toArray, List.set_cons_zero, List.set_cons_succ]); (refine wpAnyH_take (i := 23) (v := undef) rfl (by kernel_rfl) (by kernel_rfl) (by kernel_rfl) (fun _ _ _ h => h) (Or.inr ⟨by rfl, rfl⟩) (by assumption) ?_); (try simp only [Act.put, List.getElem_toArray, List.getElem_cons_succ, List.getElem_cons_zero, List.setIfInBounds_toArray, List.set_cons_zero, List.set_cons_succ]); (refine wpAnyH_take (i := 24) (v := undef) rfl (by kernel_rfl) (by kernel_rfl) (by kernel_rfl) (fun _ _ _ h => h) (Or.inr ⟨by rfl, rfl⟩) (by assumption) ?_); (try simp only [Act.put, List.getElem_toArray, List.getElem_cons_succ, List.getElem_cons_zero, List.setIfInBounds_toArray, List.set_cons_zero, List.set_cons_succ]))
        ((refine wpAnyH_take (i := 25) (v := ?_) rfl (by kernel_rfl) (by kernel_rfl) (by kernel_rfl) (fun _ _ _ h => h) (Or.inl ⟨by rfl, ?_⟩) (by assumption) ?_; rotate_left; (next => ((intro X hX; (try dsimp only at hX); go_simp); try with_reducible rfl))); (try simp only [Act.put, List.getElem_toArray, List.getElem_cons_succ, List.getElem_cons_zero, List.setIfInBounds_toArray, List.set_cons_zero, List.set_cons_succ]))
        refine wpAnyH_done (by kernel_rfl) ?_ _
        go_wp2
        go_ret
        rw [hq.out, e1.out]
        exact ⟨_, rfl, ((hL.out.below (show Below wr.heap.size wr wr.drew from by repeat (first | (with_reducible exact Below.refl _ _) | (with_reducible exact Below.refl _ _) | (with_reducible refine below_al ?_ _) | (with_reducible refine below_dr ?_ _) | (with_reducible refine below_d1 ?_) | ((with_reducible refine Below.setCell ?_ ?_ _); rotate_left; (next => first | (simp; done) | (simp; omega) | omega))))).mono hb1.out.size).made, by repeat (first | (with_reducible exact Below.refl _ _) | (with_reducible exact hbw.out) | (with_reducible refine below_al ?_ _) | (with_reducible refine below_dr ?_ _) | (with_reducible refine below_d1 ?_) | ((with_reducible refine Below.setCell ?_ ?_ _); rotate_left; (next => first | (simp; done) | (simp; omega) | omega)))⟩
      | run hx hxq hWl hTT =>
        rename_i pre l q2 xe
        have hXr := Asd.mk (hX.out.later hbr)
        have hRb := (hXr.out.runs xe hx).1
        obtain ⟨r2, hr2⟩ : ∃ r, xe.r = r := ⟨_, rfl⟩
        rw [hr2] at hRb hxq
        have y0 : wr.cell? ⟨xe.b, 0, none⟩ = some (.string r2.Name) := cellOf hRb (i := 0) rfl
        have y3 : wr.cell? ⟨xe.b, 3, none⟩ = some (.string r2.Text) := cellOf hRb (i := 3) rfl
        have y4 : wr.cell? ⟨xe.b, 4, none⟩ = some (.int .i64 r2.At) := cellOf hRb (i := 4) rfl
        have hrm : r2 ∈ s.Runs := hXr.out.perm.mem_iff.2 (List.mem_map.2 ⟨xe, hx, hr2⟩)
        have hok := hI.out.ok r2 hrm
        obtain ⟨n, hK⟩ := stepK hw hok
        rw [hK.at_] at y4
        have hnl := hK.lt
        have hweb := hok.web
        rw [hxq] at y0 hnl hweb
        have hst : Asd (stepOf W r2 = (actOf W q2).Steps[n]) := Asd.mk (by rw [hK.step]; subst hxq; rfl)
        obtain ⟨a, ha2⟩ : ∃ a, actOf W q2 = a := ⟨_, rfl⟩
        simp only [ha2] at hnl hst
        have hkeep := Asd.mk (show ∀ Z, Below wr.heap.size wr Z → (Below wr.heap.size wr Z ∧ Z.cell? ⟨xe.b, 0, none⟩ = some (.string q2) ∧ Z.cell? ⟨xe.b, 3, none⟩ = some (.string r2.Text) ∧ Z.cell? ⟨xe.b, 4, none⟩ = some (.int .i64 (n : Int))) from fun Z hb => ⟨hb, cell_below hb y0, cell_below hb y3, cell_below hb y4⟩)
        have s_0 : Below wr.heap.size wr wr.drew := (Below.refl _ _).drew
        replace hL := Asd.mk hL
        replace hbr := Asd.mk hbr
        replace ha2 := Asd.mk ha2
        replace hx := Asd.mk hx
        replace hWl := Asd.mk hWl
        replace hTT := Asd.mk hTT
        replace hxq := Asd.mk hxq
        have hrun := Asd.mk (hxq.out ▸ runOf_mem hI.out.asc hrm)
        have x0r := cell_below hbr.out x0
        have x2r := cell_below hbr.out x2
        clear hRb hK hok hrm
        go_upto_region 8 with (fail)
        go_cut [65] (fun s65 wx => s65 = .bool (!a.Steps[n].End && pfxB r2.Text belowP) ∧ Below wr.heap.size wr wx)
        case first =>
          obtain ⟨E, hE⟩ : ∃ E, a.Steps[n].End = E := ⟨_, rfl⟩
          refine wp_region_held_drew (S := fun Z => Below wr.heap.size wr Z ∧ Z.cell? ⟨xe.b, 0, none⟩ = some (.string q2) ∧ Z.cell? ⟨xe.b, 3, none⟩ = some (.string r2.Text) ∧ Z.cell? ⟨xe.b, 4, none⟩ = some (.int .i64 (n : Int))) (by kernel_rfl) (hkeep.out _ s_0) (fun hHeld => ?_)
          ((refine wpAnyH_take (i := 0) (v := ?_) rfl (by kernel_rfl) (by kernel_rfl) (by kernel_rfl) (fun _ _ _ h => h) (Or.inl ⟨by rfl, ?_⟩) (by assumption) ?_; rotate_left; (next => ((intro X hX; (try dsimp only at hX); go_simp); try with_reducible rfl))); (try simp only [Act.put, List.getElem_toArray, List.getElem_cons_succ, List.getElem_cons_zero, List.setIfInBounds_toArray, List.set_cons_zero, List.set_cons_succ]); (refine wpAnyH_take (i := 1) (v := ?_) rfl (by kernel_rfl) (by kernel_rfl) (by kernel_rfl) (fun _ _ _ h => h) (Or.inl ⟨by rfl, ?_⟩) (by assumption) ?_; rotate_left; (next => ((intro X hX; (try dsimp only at hX); go_simp); try with_reducible rfl))); (try simp only [Act.put, List.getElem_toArray, List.getElem_cons_succ, List.getElem_cons_zero, List.setIfInBounds_toArray, List.set_cons_zero, List.set_cons_succ]); (refine wpAnyH_take (i := 2) (v := ?_) rfl (by kernel_rfl) (by kernel_rfl) (by kernel_rfl) (fun _ _ _ h => h) (Or.inl ⟨by rfl, ?_⟩) (by assumption) ?_; rotate_left; (next => ((intro X hX; (try dsimp only at hX); go_simp); try with_reducible rfl))); (try simp only [Act.put, List.getElem_toArray, List.getElem_cons_succ, List.getElem_cons_zero, List.setIfInBounds_toArray, List.set_cons_zero, List.set_cons_succ]); (refine wpAnyH_take (i := 3) (v := ?_) rfl (by kernel_rfl) (by kernel_rfl) (by kernel_rfl) (fun _ _ _ h => h) (Or.inl ⟨by rfl, ?_⟩) (by assumption) ?_; rotate_left; (next => ((intro X hX; (try dsimp only at hX); go_simp); try with_reducible rfl))); (try simp only [Act.put, List.getElem_toArray, List.getElem_cons_succ, List.getElem_cons_zero, List.setIfInBounds_toArray, List.set_cons_zero, List.set_cons_succ]); (refine wpAnyH_take (i := 4) (v := ?_) rfl (by kernel_rfl) (by kernel_rfl) (by kernel_rfl) (fun _ _ _ h => h) (Or.inl ⟨by rfl, ?_⟩) (by assumption) ?_; rotate_left; (next => ((intro X hX; (try dsimp only at hX); go_simp); try with_reducible rfl))); (try simp only [Act.put, List.getElem_toArray, List.getElem_cons_succ, List.getElem_cons_zero, List.setIfInBounds_toArray, List.set_cons_zero, List.set_cons_succ]); (refine wpAnyH_take (i := 5) (v := ?_) rfl (by kernel_rfl) (by kernel_rfl) (by kernel_rfl) (fun _ _ _ h => h) (Or.inl ⟨by rfl, ?_⟩) (by assumption) ?_; rotate_left; (next => ((intro X hX; (try dsimp only at hX); go_simp); try with_reducible rfl))); (try simp only [Act.put, List.getElem_toArray, List.getElem_cons_succ, List.getElem_cons_zero, List.setIfInBounds_toArray, List.set_cons_zero, List.set_cons_succ]); (refine wpAnyH_take (i := 6) (v := ?_) rfl (by kernel_rfl) (by kernel_rfl) (by kernel_rfl) (fun _ _ _ h => h) (Or.inl ⟨by rfl, ?_⟩) (by assumption) ?_; rotate_left; (next => ((intro X hX; (try dsimp only at hX); go_simp); try with_reducible rfl))); (try simp only [Act.put, List.getElem_toArray, List.getElem_cons_succ, List.getElem_cons_zero, List.setIfInBounds_toArray, List.set_cons_zero, List.set_cons_succ]); (refine wpAnyH_take (i := 7) (v := ?_) rfl (by kernel_rfl) (by kernel_rfl) (by kernel_rfl) (fun _ _ _ h => h) (Or.inl ⟨by rfl, ?_⟩) (by assumption) ?_; rotate_left; (next => ((intro X hX; (try dsimp only at hX); go_simp); try with_reducible rfl))); (try simp only [Act.put, List.getElem_toArray, List.getElem_cons_succ, List.getElem_cons_zero, List.setIfInBounds_toArray, List.set_cons_zero, List.set_cons_succ]); (refine wpAnyH_take (i := 10) (v := ?_) rfl (by kernel_rfl) (by kernel_rfl) (by kernel_rfl) (fun _ _ _ h => h) (Or.inl ⟨by rfl, ?_⟩) (by assumption) ?_; rotate_left; (next => ((intro X hX; (try dsimp only at hX); go_simp); try with_reducible rfl))); (try simp only [Act.put, List.getElem_toArray, List.getElem_cons_succ, List.getElem_cons_zero, List.setIfInBounds_toArray, List.set_cons_zero, List.set_cons_succ]); (refine wpAnyH_take (i := 11) (v := ?_) rfl (by kernel_rfl) (by kernel_rfl) (by kernel_rfl) (fun _ _ _ h => h) (Or.inl ⟨by rfl, ?_⟩) (by assumption) ?_; rotate_left; (next => ((intro X hX; (try dsimp only at hX); go_simp); try with_reducible rfl))); (try simp only [Act.put, List.getElem_toArray, List.getElem_cons_succ, List.getElem_cons_zero, List.setIfInBounds_toArray, List.set_cons_zero, List.set_cons_succ]); (refine wpAnyH_take (i := 12) (v := ?_) rfl (by kernel_rfl) (by kernel_rfl) (by kernel_rfl) (fun _ _ _ h => h) (Or.inl ⟨by rfl, ?_⟩) (by assumption) ?_; rotate_left; (next => ((intro X hX; (try dsimp only at hX); go_simp); try with_reducible rfl))); (try simp only [Act.put, List.getElem_toArray, List.getElem_cons_succ, List.getElem_cons_zero, List.setIfInBounds_toArray, List.set_cons_zero, List.set_cons_succ]); (refine wpAnyH_take (i := 13) (v := ?_) rfl (by kernel_rfl) (by kernel_rfl) (by kernel_rfl) (fun _ _ _ h => h) (Or.inl ⟨by rfl, ?_⟩) (by assumption) ?_; rotate_left; (next => ((intro X hX; (try dsimp only at hX); go_simp); try with_reducible rfl))); (try simp only [Act.put, List.getElem_toArray, List.getElem_cons_succ, List.getElem_cons_zero, List.setIfInBounds_toArray, List.set_cons_zero, List.set_cons_succ]))
          (refine wpAnyH_ready (rs := [8]) (by kernel_rfl) (by simp) ?_; refine AllReadyH.cons rfl (fun K hK => ?_) AllReadyH.nil)
          go_simp
          refine (action_calls q2 _ (hXr.out.later (show Below wr.heap.size wr _ from by repeat (first | (with_reducible exact Below.refl _ _) | (with_reducible exact s_0) | (with_reducible refine below_al ?_ _) | (with_reducible refine below_dr ?_ _) | (with_reducible refine below_d1 ?_) | ((with_reducible refine Below.setCell ?_ ?_ _); rotate_left; (next => first | (simp; done) | (simp; omega) | omega))))) ha.out hn hweb).mono ?_
          rw [ha2.out]
          rintro e' w5 ⟨A5, c5, rfl, _, hst5, hb⟩
          obtain ⟨s_0, s_1, s_2, s_3⟩ := hkeep.out _ (below_st (show Below wr.heap.size wr _ from by repeat (first | (with_reducible exact Below.refl _ _) | (with_reducible exact s_0) | (with_reducible refine below_al ?_ _) | (with_reducible refine below_dr ?_ _) | (with_reducible refine below_d1 ?_) | ((with_reducible refine Below.setCell ?_ ?_ _); rotate_left; (next => first | (simp; done) | (simp; omega) | omega)))) hb)
          obtain ⟨ad, c', v0, v2, hv, k0, k1, k2, k3, k4, k5, k6, k7, _⟩ := Step.elem (hst5.below hb) hnl
          cases hv
          have hfs := field_steps a.Cost (some ad) a.Steps.length c5
          rw [hE] at k5
          clear hb hst5 k0 k1 k2 k3 k4 k6 k7
          refine hK.out _ _ (hkeep.out _ s_0) (fun hHeld => ?_)
          clear hK K
          ((refine wpAnyH_take (i := 9) (v := ?_) rfl (by kernel_rfl) (by kernel_rfl) (by kernel_rfl) (fun _ _ _ h => h) (Or.inl ⟨by rfl, ?_⟩) (by assumption) ?_; rotate_left; (next => ((intro X hX; (try dsimp only at hX); go_simp); try with_reducible rfl))); (try simp only [Act.put, List.getElem_toArray, List.getElem_cons_succ, List.getElem_cons_zero, List.setIfInBounds_toArray, List.set_cons_zero, List.set_cons_succ]); (refine wpAnyH_take (i := 14) (v := ?_) rfl (by kernel_rfl) (by kernel_rfl) (by kernel_rfl) (fun _ _ _ h => h) (Or.inl ⟨by rfl, ?_⟩) (by assumption) ?_; rotate_left; (next => ((intro X hX; (try dsimp only at hX); go_simp); try with_reducible rfl))); (try simp only [Act.put, List.getElem_toArray, List.getElem_cons_succ, List.getElem_cons_zero, List.setIfInBounds_toArray, List.set_cons_zero, List.set_cons_succ]); (refine wpAnyH_take (i := 15) (v := ?_) rfl (by kernel_rfl) (by kernel_rfl) (by kernel_rfl) (fun _ _ _ h => h) (Or.inl ⟨by rfl, ?_⟩) (by assumption) ?_; rotate_left; (next => ((intro X hX; (try dsimp only at hX); go_simp); try with_reducible rfl))); (try simp only [Act.put, List.getElem_toArray, List.getElem_cons_succ, List.getElem_cons_zero, List.setIfInBounds_toArray, List.set_cons_zero, List.set_cons_succ]))
          (refine wpAnyH_ready (rs := [16]) (by kernel_rfl) (by simp) ?_; refine AllReadyH.cons rfl (fun K hK => ?_) AllReadyH.nil)
          go_simp
          refine hK.out _ _ (hkeep.out _ s_0) (fun hHeld => ?_)
          clear hK K
          cases E with
          | true =>
            ((refine wpAnyH_take (i := 17) (v := ?_) rfl (by kernel_rfl) (by kernel_rfl) (by kernel_rfl) (fun _ _ _ h => h) (Or.inl ⟨by rfl, ?_⟩) (by assumption) ?_; rotate_left; (next => ((intro X hX; (try dsimp only at hX); go_simp); try with_reducible rfl))); (try simp only [Act.put, List.getElem_toArray, List.getElem_cons_succ, List.getElem_cons_zero, List.setIfInBounds_toArray, List.set_cons_zero, List.set_cons_succ]); (refine wpAnyH_take (i := 18) (v := ?_) rfl (by kernel_rfl) (by kernel_rfl) (by kernel_rfl) (fun _ _ _ h => h) (Or.inl ⟨by rfl, ?_⟩) (by assumption) ?_; rotate_left; (next => ((intro X hX; (try dsimp only at hX); go_simp); try with_reducible rfl))); (try simp only [Act.put, List.getElem_toArray, List.getElem_cons_succ, List.getElem_cons_zero, List.setIfInBounds_toArray, List.set_cons_zero, List.set_cons_succ]); (refine wpAnyH_take (i := 19) (v := ?_) rfl (by kernel_rfl) (by kernel_rfl) (by kernel_rfl) (fun _ _ _ h => h) (Or.inl ⟨by rfl, ?_⟩) (by assumption) ?_; rotate_left; (next => ((intro X hX; (try dsimp only at hX); go_simp); try with_reducible rfl))); (try simp only [Act.put, List.getElem_toArray, List.getElem_cons_succ, List.getElem_cons_zero, List.setIfInBounds_toArray, List.set_cons_zero, List.set_cons_succ]))
            ((refine wpAnyH_take (i := 20) (v := undef) rfl (by kernel_rfl) (by kernel_rfl) (by kernel_rfl) (fun _ _ _ h => h) (Or.inr ⟨by rfl, rfl⟩) (by assumption) ?_); (try simp only [Act.put, List.getElem_toArray, List.getElem_cons_succ, List.getElem_cons_zero, List.setIfInBounds_toArray, List.set_cons_zero, List.set_cons_succ]); (refine wpAnyH_take (i := 21) (v := undef) rfl (by kernel_rfl) (by kernel_rfl) (by kernel_rfl) (fun _ _ _ h => h) (Or.inr ⟨by rfl, rfl⟩) (by assumption) ?_); (try simp only [Act.put, List.getElem_toArray, List.getElem_cons_succ, List.getElem_cons_zero, List.setIfInBounds_toArray, List.set_cons_zero, List.set_cons_succ]); (refine wpAnyH_take (i := 22) (v := undef) rfl (by kernel_rfl) (by kernel_rfl) (by kernel_rfl) (fun _ _ _ h => h) (Or.inr ⟨by rfl, rfl⟩) (by assumption) ?_); (try simp only [Act.put, List.getElem_toArray, List.getElem_cons_succ, List.getElem_cons_zero, List.setIfInBounds_toArray, List.set_cons_zero, List.set_cons_succ]); (refine wpAnyH_take (i := 23) (v := undef) rfl (by kernel_rfl) (by kernel_rfl) (by kernel_rfl) (fun _ _ _ h => h) (Or.inr ⟨by rfl, rfl⟩) (by assumption) ?_); (try simp only [Act.put, List.getElem_toArray, List.getElem_cons_succ, List.getElem_cons_zero, List.setIfInBounds_toArray, List.set_cons_zero, List.set_cons_succ]); (refine wpAnyH_take (i := 24) (v := undef) rfl (by kernel_rfl) (by kernel_rfl) (by kernel_rfl) (fun _ _ _ h => h) (Or.inr ⟨by rfl, rfl⟩) (by assumption) ?_); (try simp only [Act.put, List.getElem_toArray, List.getElem_cons_succ, List.getElem_cons_zero, List.setIfInBounds_toArray, List.set_cons_zero, List.set_cons_succ]))
            ((refine wpAnyH_take (i := 25) (v := ?_) rfl (by kernel_rfl) (by kernel_rfl) (by kernel_rfl) (fun _ _ _ h => h) (Or.inl ⟨by rfl, ?_⟩) (by assumption) ?_; rotate_left; (next => ((intro X hX; (try dsimp only at hX); go_simp); try with_reducible rfl))); (try simp only [Act.put, List.getElem_toArray, List.getElem_cons_succ, List.getElem_cons_zero, List.setIfInBounds_toArray, List.set_cons_zero, List.set_cons_succ]))
            refine wpAnyH_done (by kernel_rfl) ?_ _
            go_wp2_with fail
            go_meet
            exact ⟨by rw [hE]; rfl, s_0⟩
          | false =>
            ((refine wpAnyH_take (i := 17) (v := ?_) rfl (by kernel_rfl) (by kernel_rfl) (by kernel_rfl) (fun _ _ _ h => h) (Or.inl ⟨by rfl, ?_⟩) (by assumption) ?_; rotate_left; (next => ((intro X hX; (try dsimp only at hX); go_simp); try with_reducible rfl))); (try simp only [Act.put, List.getElem_toArray, List.getElem_cons_succ, List.getElem_cons_zero, List.setIfInBounds_toArray, List.set_cons_zero, List.set_cons_succ]); (refine wpAnyH_take (i := 18) (v := ?_) rfl (by kernel_rfl) (by kernel_rfl) (by kernel_rfl) (fun _ _ _ h => h) (Or.inl ⟨by rfl, ?_⟩) (by assumption) ?_; rotate_left; (next => ((intro X hX; (try dsimp only at hX); go_simp); try with_reducible rfl))); (try simp only [Act.put, List.getElem_toArray, List.getElem_cons_succ, List.getElem_cons_zero, List.setIfInBounds_toArray, List.set_cons_zero, List.set_cons_succ]); (refine wpAnyH_take (i := 19) (v := ?_) rfl (by kernel_rfl) (by kernel_rfl) (by kernel_rfl) (fun _ _ _ h => h) (Or.inl ⟨by rfl, ?_⟩) (by assumption) ?_; rotate_left; (next => ((intro X hX; (try dsimp only at hX); go_simp); try with_reducible rfl))); (try simp only [Act.put, List.getElem_toArray, List.getElem_cons_succ, List.getElem_cons_zero, List.setIfInBounds_toArray, List.set_cons_zero, List.set_cons_succ]); (refine wpAnyH_take (i := 20) (v := ?_) rfl (by kernel_rfl) (by kernel_rfl) (by kernel_rfl) (fun _ _ _ h => h) (Or.inl ⟨by rfl, ?_⟩) (by assumption) ?_; rotate_left; (next => ((intro X hX; (try dsimp only at hX); go_simp); try with_reducible rfl))); (try simp only [Act.put, List.getElem_toArray, List.getElem_cons_succ, List.getElem_cons_zero, List.setIfInBounds_toArray, List.set_cons_zero, List.set_cons_succ]); (refine wpAnyH_take (i := 21) (v := ?_) rfl (by kernel_rfl) (by kernel_rfl) (by kernel_rfl) (fun _ _ _ h => h) (Or.inl ⟨by rfl, ?_⟩) (by assumption) ?_; rotate_left; (next => ((intro X hX; (try dsimp only at hX); go_simp); try with_reducible rfl))); (try simp only [Act.put, List.getElem_toArray, List.getElem_cons_succ, List.getElem_cons_zero, List.setIfInBounds_toArray, List.set_cons_zero, List.set_cons_succ]); (refine wpAnyH_take (i := 22) (v := ?_) rfl (by kernel_rfl) (by kernel_rfl) (by kernel_rfl) (fun _ _ _ h => h) (Or.inl ⟨by rfl, ?_⟩) (by assumption) ?_; rotate_left; (next => ((intro X hX; (try dsimp only at hX); go_simp); try with_reducible rfl))); (try simp only [Act.put, List.getElem_toArray, List.getElem_cons_succ, List.getElem_cons_zero, List.setIfInBounds_toArray, List.set_cons_zero, List.set_cons_succ]); (refine wpAnyH_take (i := 23) (v := ?_) rfl (by kernel_rfl) (by kernel_rfl) (by kernel_rfl) (fun _ _ _ h => h) (Or.inl ⟨by rfl, ?_⟩) (by assumption) ?_; rotate_left; (next => ((intro X hX; (try dsimp only at hX); go_simp); try with_reducible rfl))); (try simp only [Act.put, List.getElem_toArray, List.getElem_cons_succ, List.getElem_cons_zero, List.setIfInBounds_toArray, List.set_cons_zero, List.set_cons_succ]))
            (refine wpAnyH_ready (rs := [24]) (by kernel_rfl) (by simp) ?_; refine AllReadyH.cons rfl (fun K hK => ?_) AllReadyH.nil)
            go_simp
            refine (HasPrefix_calls r2.Text belowP _).mono ?_
            rintro e' w6 ⟨rfl, rfl⟩
            refine hK.out _ _ (hkeep.out _ s_0) (fun hHeld => ?_)
            clear hK K
            ((refine wpAnyH_take (i := 25) (v := ?_) rfl (by kernel_rfl) (by kernel_rfl) (by kernel_rfl) (fun _ _ _ h => h) (Or.inl ⟨by rfl, ?_⟩) (by assumption) ?_; rotate_left; (next => ((intro X hX; (try dsimp only at hX); go_simp); try with_reducible rfl))); (try simp only [Act.put, List.getElem_toArray, List.getElem_cons_succ, List.getElem_cons_zero, List.setIfInBounds_toArray, List.set_cons_zero, List.set_cons_succ]))
            refine wpAnyH_done (by kernel_rfl) ?_ _
            go_wp2_with fail
            go_meet
            exact ⟨by rw [hE]; rfl, s_0⟩
        case rest =>
          obtain ⟨rfl, hbc⟩ := hcut
          obtain ⟨Z, eZ⟩ : ∃ Z, Z = wc := ⟨_, rfl⟩
          rw [← eZ] at hbc ⊢
          clear eZ hkeep s_0 y0 y4
          have hbZ := Asd.mk hbc
          replace y3 := cell_below hbc y3
          replace x0r := cell_below hbc x0r
          replace x2r := cell_below hbc x2r
          have hLZ := Asd.mk (hL.out.below hbc)
          have hbZ1 := Asd.mk (below_st hbr.out hbc)
          have hbZw := Asd.mk (below_st hb1.out hbZ1.out)
          have hXZ := Asd.mk (hXr.out.later hbc)
          clear hbc hXr
          have hrun2 := hrun.out
          cases hWl.out with
          | stop h1 h2 h3 h4 =>
            rw [hrun2] at h1
            cases h1
            have hb : (!a.Steps[n].End && pfxB r2.Text belowP) = false := by
              rcases h4 with h4 | h4
              · rw [hst.out] at h4; rw [h4]; rfl
              · rw [h4, pfx_spent]; simp
            rw [hb]
            have hTT2 := hTT.out
            clear h2 h3 h4 hb
            go_wp2
            go_ret
            rw [hq.out, e1.out, ← hTT2]
            exact ⟨_, rfl, (hLZ.out.mono hb1.out.size).made, by repeat (first | (with_reducible exact Below.refl _ _) | (with_reducible exact hbZw.out) | (with_reducible refine below_al ?_ _) | (with_reducible refine below_dr ?_ _) | (with_reducible refine below_d1 ?_) | ((with_reducible refine Below.setCell ?_ ?_ _); rotate_left; (next => first | (simp; done) | (simp; omega) | omega)))⟩
          | gone h1 h2 h3 h4 h5 h6 h7 =>
            rename_i X r3
            rw [hrun2] at h1
            cases h1
            rw [hst.out] at h4
            rw [h4, h5, pfx_below]
            rw [h5] at y3
            have ht6 : 6 ≤ (belowT X).size := by rw [belowT_size]; omega
            have hte := ext_below X rfl
            obtain ⟨tx, htx⟩ : ∃ tx, belowT X = tx := ⟨_, rfl⟩
            rw [htx] at y3 ht6 hte
            clear h2 h3 h4 h5 htx hrun2
            rw [show (!false && true) = true from rfl]
            go_wp2_with (at_builtin; refine appStr rfl rfl rfl (lo := w1.heap.size) (wr := Z) hbZ1.out.size hLZ.out (by repeat (first | (with_reducible exact Below.refl _ _) | (with_reducible exact Below.refl _ _) | (with_reducible refine below_al ?_ _) | (with_reducible refine below_dr ?_ _) | (with_reducible refine below_d1 ?_) | ((with_reducible refine Below.setCell ?_ ?_ _); rotate_left; (next => first | (simp; done) | (simp; omega) | omega)))) rfl (heap_alloc_new _ _) (by omega) ?_)
            intro v7 w7 hL7 hF7
            obtain ⟨A7, d7, rfl, _, _⟩ := hL7.slice
            have hb7 := Asd.mk (Far.trans (show Below w1.heap.size w1 _ from by repeat (first | (with_reducible exact Below.refl _ _) | (with_reducible exact hbZ1.out) | (with_reducible refine below_al ?_ _) | (with_reducible refine below_dr ?_ _) | (with_reducible refine below_d1 ?_) | ((with_reducible refine Below.setCell ?_ ?_ _); rotate_left; (next => first | (simp; done) | (simp; omega) | omega)))) hF7 (Nat.le_refl _) (by have := hbZ1.out.size; simp; omega))
            replace hL7 := Asd.mk hL7
            replace x0r := cell_below hb7.out x0
            replace x2r := cell_below hb7.out x2
            clear hF7
            have hl := (hX.out.later hb7.out).run_none h7
            have hTT2 := hTT.out
            clear h7
            go_wp2
            go_roundg 1
            case measure => simp only [List.length_cons, List.length_nil] at hkk; omega
            case rel => exact ⟨q :: T0, 0, .none, by omega, by rw [← hTT2]; exact hL7.out, hTl2, hb7.out⟩
          | next h1 h2 h3 h4 h5 h6 =>
            rename_i X r3
            rw [hrun2] at h1
            cases h1
            rw [hst.out] at h4
            rw [h4, h5, pfx_below]
            rw [h5] at y3
            have ht6 : 6 ≤ (belowT X).size := by rw [belowT_size]; omega
            have hte := ext_below X rfl
            obtain ⟨tx, htx⟩ : ∃ tx, belowT X = tx := ⟨_, rfl⟩
            rw [htx] at y3 ht6 hte
            clear h2 h3 h4 h5 htx hrun2
            rw [show (!false && true) = true from rfl]
            obtain ⟨r4, hr4, _, _⟩ := h6.run
            obtain ⟨tl, rfl⟩ := h6.pos
            go_wp2_with (at_builtin; refine appStr rfl rfl rfl (lo := w1.heap.size) (wr := Z) hbZ1.out.size hLZ.out (by repeat (first | (with_reducible exact Below.refl _ _) | (with_reducible exact Below.refl _ _) | (with_reducible refine below_al ?_ _) | (with_reducible refine below_dr ?_ _) | (with_reducible refine below_d1 ?_) | ((with_reducible refine Below.setCell ?_ ?_ _); rotate_left; (next => first | (simp; done) | (simp; omega) | omega)))) rfl (heap_alloc_new _ _) (by omega) ?_)
            intro v7 w7 hL7 hF7
            obtain ⟨A7, d7, rfl, _, _⟩ := hL7.slice
            have hb7 := Asd.mk (Far.trans (show Below w1.heap.size w1 _ from by repeat (first | (with_reducible exact Below.refl _ _) | (with_reducible exact hbZ1.out) | (with_reducible refine below_al ?_ _) | (with_reducible refine below_dr ?_ _) | (with_reducible refine below_d1 ?_) | ((with_reducible refine Below.setCell ?_ ?_ _); rotate_left; (next => first | (simp; done) | (simp; omega) | omega)))) hF7 (Nat.le_refl _) (by have := hbZ1.out.size; simp; omega))
            replace hL7 := Asd.mk hL7
            replace x0r := cell_below hb7.out x0
            replace x2r := cell_below hb7.out x2
            clear hF7
            obtain ⟨x4, hx4, hxr4, hl⟩ := (hX.out.later hb7.out).run_some hr4
            have hat := Asd.mk (show WhyAt W s.Runs L (q :: T0) (pre ++ [q2, X]) (.pointer (some ⟨x4.b, 0, none⟩)) (tl.length + 1) from by rw [show pre ++ [q2, X] = pre ++ [q2] ++ [X] by simp]; exact WhyAt.run (pre := pre ++ [q2]) hx4 (by rw [hxr4]; exact (runOf_some hr4).2) h6 (by rw [← hTT.out]; simp))
            have hlen : (pre ++ [q2, X]).length ≤ 2702 := by
              have := congrArg List.length hTT.out
              simp only [List.length_append, List.length_cons, List.length_nil] at this hTl2 ⊢
              omega
            clear hr4 h6 hxr4 hx4
            go_wp2
            go_roundg (tl.length + 2)
            case measure => simp only [List.length_cons] at hkk; omega
            case rel => exact ⟨_, _, hat.out, by omega, hL7.out, hlen, hb7.out⟩
end Go.Proofs.YtkpkfihaihoaeaaGreatDoor.M
end
section
set_option linter.unusedVariables false
set_option linter.unusedSimpArgs false
namespace Go.Proofs.YtkpkfihaihoaeaaGreatDoor.M
open Go.RowKit
inductive WhyS (W : Web) (R : List Run) (T : List ByteArray) : List ByteArray → ByteArray → Nat → Prop where
  | none {pre : List ByteArray} {q : ByteArray} : runOf R q = none → (if pre = [] then [] else pre ++ [q]) = T → WhyS W R T pre q 0
  | not {pre : List ByteArray} {q : ByteArray} {r : Run} : runOf R q = some r → ¬(r.Over = true ∧ r.Fail = true) → pre = T → WhyS W R T pre q 0
  | run {pre l : List ByteArray} {q : ByteArray} : WhyL W R q l → pre ++ l = T → WhyS W R T pre q l.length
theorem WhyS.start {W : Web} {roots : List ByteArray} {R : List Run} (hw : checkWeb W = 0) (hR : Reach W roots R) (q : ByteArray) : ∃ n, n ≤ 2702 ∧ WhyS W R (whyL W R q) [] q n := by
  cases hr : runOf R q with
  | none => exact ⟨0, by omega, .none hr (by rw [whyL_none hr]; rfl)⟩
  | some r =>
    by_cases h : r.Over = true ∧ r.Fail = true
    · obtain ⟨T, hT, hl⟩ := hR.why hw r (runOf_some hr).1 h.1 h.2
      rw [(runOf_some hr).2] at hT
      have := mu_le hw (begin_ W roots)
      exact ⟨_, by omega, .run hT (by rw [whyL_eq hT (by omega)]; rfl)⟩
    · exact ⟨0, by omega, .not hr h (whyL_not hr h).symm⟩
theorem spent_list : (⟨#[115, 112, 101, 110, 116]⟩ : ByteArray).toList = [115, 112, 101, 110, 116] := by simp
theorem WhyS.len {W : Web} {R : List Run} {T pre : List ByteArray} {q : ByteArray} {n : Nat} (h : WhyS W R T pre q n) : T.length ≤ pre.length + n + 1 := by
  cases h with
  | none _ h2 => rw [← h2]; split <;> simp <;> omega
  | not _ _ h2 => rw [← h2]; omega
  | run _ h2 => rw [← h2]; simp <;> omega
set_option maxRecDepth 100000 in
set_option maxHeartbeats 8000000 in
theorem sWhy_calls {tN tS tC t : Nat} (W : Web) (s : State) (q : ByteArray) (w : World) {vs us : List Value} (hW : reps w (W.c tN tS tC) vs) (h : reps w (State.c t s) us) (hz : W.Sm) :
    Calls Tryz.prog 45 #[.agg vs.toArray, .agg us.toArray, .string q] w (MadeV w (strsT 9 (whyC W s q))) := by
  obtain ⟨v0, rfl, h0⟩ := Web.ropen hW
  obtain ⟨A, c, rfl, _, _⟩ := rep_len h0
  obtain ⟨u0, u1, rfl, g0, g1⟩ := State.ropen h
  obtain ⟨D, k, rfl, _, _⟩ := rep_len g0
  obtain ⟨B, d, rfl, _, _⟩ := rep_len g1
  replace h0 := Asd.mk h0
  replace g1 := Asd.mk g1
  replace hW := Asd.mk hW
  replace h := Asd.mk h
  clear g0
  obtain ⟨g, hg⟩ : ∃ g, validS W s = g := ⟨_, rfl⟩
  go_enter Tryz.func45, Tryz.ntmps45
  go_upto_region 2 with (fail)
  obtain ⟨X, eX⟩ : ∃ X : World, X = ((w.alloc (.cells #[.slice A W.Nodes.length c] 34)).alloc (.cells #[.slice D s.Roots.length k, .slice B s.Runs.length d] 38)).alloc (.cells #[] 9) := ⟨_, rfl⟩
  rw [← eX]
  have hbX := Asd.mk (show Below w.heap.size w X from eX ▸ by repeat (first | (with_reducible exact Below.refl _ _) | (with_reducible exact Below.refl _ _) | (with_reducible refine below_al ?_ _) | (with_reducible refine below_dr ?_ _) | (with_reducible refine below_d1 ?_) | ((with_reducible refine Below.setCell ?_ ?_ _); rotate_left; (next => first | (simp; done) | (simp; omega) | omega))))
  have gA := Asd.mk (show X.heap[w.heap.size]? = some (.cells #[.slice A W.Nodes.length c] 34 (0, 0)) from eX ▸ (heap_alloc_old _ _ (by simp; omega)).trans ((heap_alloc_old _ _ (by simp)).trans (heap_alloc_new w (.cells #[.slice A W.Nodes.length c] 34))))
  have gB := Asd.mk (show X.heap[w.heap.size + 1]? = some (.cells #[.slice D s.Roots.length k, .slice B s.Runs.length d] 38 (0, 0)) from eX ▸ (heap_alloc_old _ _ (by simp)).trans (by simpa using heap_alloc_new (w.alloc (.cells #[.slice A W.Nodes.length c] 34)) (.cells #[.slice D s.Roots.length k, .slice B s.Runs.length d] 38)))
  have a0 : X.cell? ⟨w.heap.size, 0, none⟩ = some (.slice A W.Nodes.length c) := cellOf gA.out rfl
  have b0 : X.cell? ⟨w.heap.size + 1, 0, none⟩ = some (.slice D s.Roots.length k) := cellOf gB.out rfl
  have b1 : X.cell? ⟨w.heap.size + 1, 1, none⟩ = some (.slice B s.Runs.length d) := cellOf gB.out rfl
  have zX : w.heap.size + 1 < X.heap.size := by rw [eX]; simp
  have hE := Asd.mk (show own X (strsT 9 []) (.slice (some ⟨w.heap.size + 1 + 1, 0, none⟩) 0 0) [w.heap.size + 1 + 1] from by
    have h2 := own_empty ((w.alloc (.cells #[.slice A W.Nodes.length c] 34)).alloc (.cells #[.slice D s.Roots.length k, .slice B s.Runs.length d] 38)) 9 1
    have h3 : ((w.alloc (.cells #[.slice A W.Nodes.length c] 34)).alloc (.cells #[.slice D s.Roots.length k, .slice B s.Runs.length d] 38)).heap.size = w.heap.size + 1 + 1 := by simp
    rw [h3] at h2
    rw [eX]
    exact h2)
  clear eX
  go_wp2_with fail
  refine (sValidState_calls W s _ (hW.out.below hbX.out) (h.out.below hbX.out) hz).mono ?_
  rw [hg]
  rintro e w1 ⟨rfl, hb⟩
  have hb1 := Asd.mk (below_st hbX.out hb)
  replace gA := Asd.mk ((hb.block _ (by omega)).trans gA.out)
  replace gB := Asd.mk ((hb.block _ (by omega)).trans gB.out)
  replace hE := Asd.mk (hE.out.below hb)
  clear a0 b0 b1
  have zX1 : w.heap.size + 1 < w1.heap.size := by have := hb.size; omega
  clear hb
  cases g with
  | false =>
    have hq := Asd.mk (whyC_no (q := q) hg)
    clear hg
    go_wp2
    go_ret
    rw [hq.out]
    exact ⟨_, rfl, ⟨_, hE.out, by simp, by simp; omega⟩, hb1.out⟩
  | true =>
    have hq := Asd.mk (whyC_yes (q := q) hg)
    obtain ⟨hw, _, hR⟩ := validS_reach hg
    have hI := Asd.mk (hR.inv hw)
    obtain ⟨n0, hn0, hst0⟩ := WhyS.start hw hR q
    obtain ⟨T, hT⟩ : ∃ T, whyL W s.Runs q = T := ⟨_, rfl⟩
    rw [hT] at hst0
    rw [hT] at hq
    have hst0 := Asd.mk hst0
    replace hR := Asd.mk hR
    clear hg hT
    go_wp2
    go_loopg [2, 7] (n0 + 1) (fun kx s2 s7 wx => ∃ (pre : List ByteArray) (p : ByteArray) (kk : Nat) (F : List Nat), s2 = .string p ∧ WhyS W s.Runs T pre p kk ∧ kk + 1 ≤ kx ∧ own wx (strsT 9 pre) s7 F ∧ F.Nodup ∧ (∀ b ∈ F, w.heap.size + 1 < b) ∧ pre.length ≤ 2703 ∧ wx.heap[w.heap.size]? = some (.cells #[.slice A W.Nodes.length c] 34 (0, 0)) ∧ wx.heap[w.heap.size + 1]? = some (.cells #[.slice D s.Roots.length k, .slice B s.Runs.length d] 38 (0, 0)) ∧ Below w.heap.size w wx)
    case atStart => exact ⟨[], q, _, _, rfl, hst0.out, by omega, hE.out, by simp, by simp, by simp, gA.out, gB.out, hb1.out⟩
    case round =>
      obtain ⟨pre, p, kk, F, rfl, hat, hkk, hL, hLn, hLf, hpl, gAr, gBr, hbr⟩ := hrel
      obtain ⟨Av, cv, rfl, _, _⟩ := own_slice hL
      have hbw := Asd.mk hbr
      have a0r : wr.cell? ⟨w.heap.size, 0, none⟩ = some (.slice A W.Nodes.length c) := cellOf gAr rfl
      have b0r : wr.cell? ⟨w.heap.size + 1, 0, none⟩ = some (.slice D s.Roots.length k) := cellOf gBr rfl
      have b1r : wr.cell? ⟨w.heap.size + 1, 1, none⟩ = some (.slice B s.Runs.length d) := cellOf gBr rfl
      have zr : w.heap.size + 1 < wr.heap.size := lt_of_heap gBr
      replace gAr := Asd.mk gAr
      replace gBr := Asd.mk gBr
      replace hLf := Asd.mk hLf
      replace hL := Asd.mk hL
      replace hbr := Asd.mk hbr
      go_wp2_with fail
      refine (l4At_calls s p _ (h.out.below (hbw.out.trans ((show Below wr.heap.size wr _ from by repeat (first | (with_reducible exact Below.refl _ _) | (with_reducible exact Below.refl _ _) | (with_reducible refine below_al ?_ _) | (with_reducible refine below_dr ?_ _) | (with_reducible refine below_d1 ?_) | ((with_reducible refine Below.setCell ?_ ?_ _); rotate_left; (next => first | (simp; done) | (simp; omega) | omega)))).mono hbw.out.size)))).mono ?_
      obtain ⟨tq, htq⟩ : ∃ tq, atR s.Runs p = tq := ⟨_, rfl⟩
      rw [htq]
      rintro e' w3 ⟨rfl, hb⟩
      have hb3 := Asd.mk (show Below wr.heap.size wr w3 from by repeat (first | (with_reducible exact Below.refl _ _) | (with_reducible exact hb) | (with_reducible refine below_al ?_ _) | (with_reducible refine below_dr ?_ _) | (with_reducible refine below_d1 ?_) | ((with_reducible refine Below.setCell ?_ ?_ _); rotate_left; (next => first | (simp; done) | (simp; omega) | omega))))
      replace a0r := cell_below hb3.out a0r
      replace b0r := cell_below hb3.out b0r
      replace b1r := cell_below hb3.out b1r
      have hL3 := Asd.mk (hL.out.below hb3.out)
      have hbw3 := Asd.mk (below_st hbw.out hb3.out)
      replace gAr := Asd.mk ((hb3.out.block _ (by omega)).trans gAr.out)
      replace gBr := Asd.mk ((hb3.out.block _ (by omega)).trans gBr.out)
      have hLl := Asd.mk hL.out.lt
      have zr3 : w.heap.size + 1 < w3.heap.size := by have := hb3.out.size; omega
      clear hb
      cases hat with
      | none h1 h2 =>
        obtain rfl : tq = -1 := by rw [← htq]; exact atR_none h1
        clear htq
        by_cases hp : pre = []
        · subst hp
          rw [if_pos rfl] at h2
          replace h2 := Asd.mk h2
          clear h1
          go_wp2
          go_ret
          rw [hq.out, ← h2.out]
          exact ⟨_, rfl, ⟨F, hL3.out, hLn, fun b hb => by have := hLf.out b hb; omega⟩, by repeat (first | (with_reducible exact Below.refl _ _) | (with_reducible exact hbw3.out) | (with_reducible refine below_al ?_ _) | (with_reducible refine below_dr ?_ _) | (with_reducible refine below_d1 ?_) | ((with_reducible refine Below.setCell ?_ ?_ _); rotate_left; (next => first | (simp; done) | (simp; omega) | omega)))⟩
        · rw [if_neg hp] at h2
          have hp2 : 0 < pre.length := List.length_pos_iff.2 hp
          replace h2 := Asd.mk h2
          have hp3 : decide ((0 : Int) < (pre.length : Int)) = true := decide_eq_true (by omega)
          replace hp := Asd.mk hp
          clear h1
          go_wp2_with (at_builtin; refine appG rfl rfl Tryz.underlying25 info_str rfl rfl (hL3.out.below (by repeat (first | (with_reducible exact Below.refl _ _) | (with_reducible exact Below.refl _ _) | (with_reducible refine below_al ?_ _) | (with_reducible refine below_dr ?_ _) | (with_reducible refine below_d1 ?_) | ((with_reducible refine Below.setCell ?_ ?_ _); rotate_left; (next => first | (simp; done) | (simp; omega) | omega))))) rfl (heap_alloc_new _ _) (by simp [maxLen]; omega) (by omega) ?_)
          intro v7 w7 F7 hL7 hs7 hn7 hm7
          obtain ⟨A7, d7, rfl, _, _⟩ := own_slice hL7
          have hb7 := Asd.mk (MFr.upon hm7 (show Below w.heap.size w _ from by repeat (first | (with_reducible exact Below.refl _ _) | (with_reducible exact hbw3.out) | (with_reducible refine below_al ?_ _) | (with_reducible refine below_dr ?_ _) | (with_reducible refine below_d1 ?_) | ((with_reducible refine Below.setCell ?_ ?_ _); rotate_left; (next => first | (simp; done) | (simp; omega) | omega)))) (Nat.le_refl _) (fun b hb => by have := hLf.out b hb; omega))
          have hs7' := Asd.mk (show ∀ b ∈ F7, w.heap.size ≤ b from fun b hb => (hs7 b hb).elim (fun h => by have := hLf.out b h; omega) (fun h => by have := hbw3.out.size; (try simp at h); omega))
          obtain ⟨n7, hn7⟩ : ∃ n, (pre ++ [p]).length = n := ⟨_, rfl⟩
          rw [hn7] at hL7 ⊢
          replace hL7 := Asd.mk hL7
          have hn8 : F7.Nodup := by first | exact hn7 | (rename_i hx _ _; exact hx hLn) | assumption
          clear hm7 hs7
          go_wp2
          go_ret
          rw [hq.out, ← h2.out]
          exact ⟨_, rfl, ⟨F7, hL7.out, hn8, hs7'.out⟩, hb7.out⟩
      | not h1 h2 h3 =>
        rename_i r
        obtain ⟨ir, hir, hM, hri⟩ := atR_some h1
        obtain rfl : tq = (ir : Int) := by rw [← htq]; exact hM
        obtain ⟨ax, cx, v6, he, k0, k1, k2, k3, k4, k5, k6, hk6, _⟩ := Run.elem (g1.out.below hbw3.out) hir
        cases he
        rw [hri] at k0 k1 k2 k3 k4 k5 hk6
        obtain ⟨Er, er, rfl, _, _⟩ := rep_len hk6
        have hz : (ir : Int) < (s.Runs.length : Int) := by omega
        clear htq hM hri hk6
        go_upto_region 10 with (fail)
        obtain ⟨Y, eY⟩ : ∃ Y : World, Y = w3.alloc (.cells #[.string r.Name, .bool r.Over, .bool r.Fail, .string r.Text, .int .i64 r.At, .int .i64 r.Visits, .slice Er r.Texts.length er] 84) := ⟨_, rfl⟩
        rw [← eY]
        have hbY := Asd.mk (show Below w3.heap.size w3 Y from eY ▸ by repeat (first | (with_reducible exact Below.refl _ _) | (with_reducible exact Below.refl _ _) | (with_reducible refine below_al ?_ _) | (with_reducible refine below_dr ?_ _) | (with_reducible refine below_d1 ?_) | ((with_reducible refine Below.setCell ?_ ?_ _); rotate_left; (next => first | (simp; done) | (simp; omega) | omega))))
        have gY := Asd.mk (show Y.heap[w3.heap.size]? = _ from eY ▸ heap_alloc_new _ _)
        have zY : w3.heap.size < Y.heap.size := lt_of_heap gY.out
        have y1 : Y.cell? ⟨w3.heap.size, 1, none⟩ = some (.bool r.Over) := cellOf gY.out rfl
        have y2 : Y.cell? ⟨w3.heap.size, 2, none⟩ = some (.bool r.Fail) := cellOf gY.out rfl
        have y3 : Y.cell? ⟨w3.heap.size, 3, none⟩ = some (.string r.Text) := cellOf gY.out rfl
        have y4 : Y.cell? ⟨w3.heap.size, 4, none⟩ = some (.int .i64 r.At) := cellOf gY.out rfl
        have hLY := Asd.mk (hL3.out.below hbY.out)
        have hbYw := Asd.mk (below_st hbw3.out hbY.out)
        have gAY := Asd.mk ((hbY.out.block _ (by omega)).trans gAr.out)
        have gBY := Asd.mk ((hbY.out.block _ (by omega)).trans gBr.out)
        replace a0r := cell_below hbY.out a0r
        replace b1r := cell_below hbY.out b1r
        clear eY k0 k1 k2 k3 k4 k5 k6 b0r
        replace h3 := Asd.mk h3
        clear h1 y3 y4
        cases ho : r.Over with
        | false =>
          rw [ho] at y1
          clear h2 y2
          go_wp2
          go_ret
          rw [hq.out, ← h3.out]
          exact ⟨_, rfl, ⟨F, hLY.out, hLn, fun b hb => by have := hLf.out b hb; omega⟩, by repeat (first | (with_reducible exact Below.refl _ _) | (with_reducible exact hbYw.out) | (with_reducible refine below_al ?_ _) | (with_reducible refine below_dr ?_ _) | (with_reducible refine below_d1 ?_) | ((with_reducible refine Below.setCell ?_ ?_ _); rotate_left; (next => first | (simp; done) | (simp; omega) | omega)))⟩
        | true =>
          have hf : r.Fail = false := by
            cases hf : r.Fail with
            | false => rfl
            | true => exact absurd ⟨ho, hf⟩ h2
          rw [ho] at y1
          rw [hf] at y2
          clear h2
          go_wp2
          go_ret
          rw [hq.out, ← h3.out]
          exact ⟨_, rfl, ⟨F, hLY.out, hLn, fun b hb => by have := hLf.out b hb; omega⟩, by repeat (first | (with_reducible exact Below.refl _ _) | (with_reducible exact hbYw.out) | (with_reducible refine below_al ?_ _) | (with_reducible refine below_dr ?_ _) | (with_reducible refine below_d1 ?_) | ((with_reducible refine Below.setCell ?_ ?_ _); rotate_left; (next => first | (simp; done) | (simp; omega) | omega)))⟩
      | run h1 h2 =>
        rename_i l
        obtain ⟨r, hr, ho, hf⟩ := h1.run
        replace ho := Asd.mk ho
        replace hf := Asd.mk hf
        have h2 := Asd.mk h2
        have hWl := Asd.mk h1
        have hr0 := Asd.mk hr
        replace h1 := hr
        obtain ⟨ir, hir, hM, hri⟩ := atR_some h1
        obtain rfl : tq = (ir : Int) := by rw [← htq]; exact hM
        obtain ⟨ax, cx, v6, he, k0, k1, k2, k3, k4, k5, k6, hk6, _⟩ := Run.elem (g1.out.below hbw3.out) hir
        cases he
        rw [hri] at k0 k1 k2 k3 k4 k5 hk6
        obtain ⟨Er, er, rfl, _, _⟩ := rep_len hk6
        have hz : (ir : Int) < (s.Runs.length : Int) := by omega
        clear htq hM hri hk6
        go_upto_region 10 with (fail)
        obtain ⟨Y, eY⟩ : ∃ Y : World, Y = w3.alloc (.cells #[.string r.Name, .bool r.Over, .bool r.Fail, .string r.Text, .int .i64 r.At, .int .i64 r.Visits, .slice Er r.Texts.length er] 84) := ⟨_, rfl⟩
        rw [← eY]
        have hbY := Asd.mk (show Below w3.heap.size w3 Y from eY ▸ by repeat (first | (with_reducible exact Below.refl _ _) | (with_reducible exact Below.refl _ _) | (with_reducible refine below_al ?_ _) | (with_reducible refine below_dr ?_ _) | (with_reducible refine below_d1 ?_) | ((with_reducible refine Below.setCell ?_ ?_ _); rotate_left; (next => first | (simp; done) | (simp; omega) | omega))))
        have gY := Asd.mk (show Y.heap[w3.heap.size]? = _ from eY ▸ heap_alloc_new _ _)
        have zY : w3.heap.size < Y.heap.size := lt_of_heap gY.out
        have y1 : Y.cell? ⟨w3.heap.size, 1, none⟩ = some (.bool r.Over) := cellOf gY.out rfl
        have y2 : Y.cell? ⟨w3.heap.size, 2, none⟩ = some (.bool r.Fail) := cellOf gY.out rfl
        have y3 : Y.cell? ⟨w3.heap.size, 3, none⟩ = some (.string r.Text) := cellOf gY.out rfl
        have y4 : Y.cell? ⟨w3.heap.size, 4, none⟩ = some (.int .i64 r.At) := cellOf gY.out rfl
        have hLY := Asd.mk (hL3.out.below hbY.out)
        have hbYw := Asd.mk (below_st hbw3.out hbY.out)
        have gAY := Asd.mk ((hbY.out.block _ (by omega)).trans gAr.out)
        have gBY := Asd.mk ((hbY.out.block _ (by omega)).trans gBr.out)
        replace a0r := cell_below hbY.out a0r
        replace b1r := cell_below hbY.out b1r
        clear eY k0 k1 k2 k3 k4 k5 k6 b0r
        rw [ho.out] at y1
        rw [hf.out] at y2
        have hok := hI.out.ok r (runOf_some hr0.out).1
        obtain ⟨n, hK⟩ := stepK hw hok
        have hat4 := Asd.mk hK.at_
        have hnl := hK.lt
        have hweb := hok.web
        rw [(runOf_some hr0.out).2] at hnl hweb
        have hst : Asd (stepOf W r = (actOf W p).Steps[n]) := Asd.mk (by rw [hK.step]; have e := (runOf_some hr0.out).2; subst e; rfl)
        obtain ⟨na, hna, hN1, hN2⟩ := node_atN hweb
        obtain ⟨a, ha⟩ : ∃ a, actOf W p = a := ⟨_, rfl⟩
        rw [ha] at hN2
        simp only [ha] at hnl hst
        replace hN1 := Asd.mk hN1
        clear hK hok hweb h1 ho hf
        go_wp2_with (at_builtin; refine appG rfl rfl Tryz.underlying25 info_str rfl rfl (hLY.out.below (by repeat (first | (with_reducible exact Below.refl _ _) | (with_reducible exact Below.refl _ _) | (with_reducible refine below_al ?_ _) | (with_reducible refine below_dr ?_ _) | (with_reducible refine below_d1 ?_) | ((with_reducible refine Below.setCell ?_ ?_ _); rotate_left; (next => first | (simp; done) | (simp; omega) | omega))))) rfl (heap_alloc_new _ _) (by simp [maxLen]; omega) (by omega) ?_)
        intro v7 w7 F7 hL7 hs7 hn7 hm7
        obtain ⟨A7, d7, rfl, _, _⟩ := own_slice hL7
        have hbA := show Below Y.heap.size Y (Y.alloc (.cells #[.string p] 9)) from by repeat (first | (with_reducible exact Below.refl _ _) | (with_reducible exact Below.refl _ _) | (with_reducible refine below_al ?_ _) | (with_reducible refine below_dr ?_ _) | (with_reducible refine below_d1 ?_) | ((with_reducible refine Below.setCell ?_ ?_ _); rotate_left; (next => first | (simp; done) | (simp; omega) | omega)))
        have hb7 := Asd.mk (MFr.upon hm7 (below_st hbYw.out hbA) (Nat.le_refl _) (fun b hb => by have := hLf.out b hb; omega))
        have hlF := Asd.mk (fun b (hb : b ∈ F) => show b < wr.heap.size from hLl.out b hb)
        have z3 := hb3.out.size
        have gA7 := Asd.mk ((hm7.block _ (by simp; omega) (fun hb => by have := hLf.out _ hb; omega)).trans ((hbA.block _ (by omega)).trans gAY.out))
        have gB7 := Asd.mk ((hm7.block _ (by simp; omega) (fun hb => by have := hLf.out _ hb; omega)).trans ((hbA.block _ (by omega)).trans gBY.out))
        have gR7 := Asd.mk ((hm7.block _ (by simp; omega) (fun hb => by have := hlF.out _ hb; omega)).trans ((hbA.block _ zY).trans gY.out))
        have hs7' := Asd.mk (show ∀ b ∈ F7, w.heap.size + 1 < b from fun b hb => (hs7 b hb).elim (fun h => hLf.out b h) (fun h => by (try simp at h); omega))
        obtain ⟨n7, hn7'⟩ : ∃ n, (pre ++ [p]).length = n := ⟨_, rfl⟩
        have hL7r := Asd.mk hL7
        rw [hn7'] at hL7 ⊢
        clear hL7
        have hn8 : F7.Nodup := by first | exact hn7 | assumption
        have zR7 : w3.heap.size < w7.heap.size := lt_of_heap gR7.out
        have zW7 : w.heap.size + 1 < w7.heap.size := lt_of_heap gB7.out
        clear hm7 hs7 y1 y2 y3 y4 a0r b1r hbA zY
        have a07 : w7.cell? ⟨w.heap.size, 0, none⟩ = some (.slice A W.Nodes.length c) := cellOf gA7.out rfl
        have y3 : w7.cell? ⟨w3.heap.size, 3, none⟩ = some (.string r.Text) := cellOf gR7.out rfl
        have y4 : w7.cell? ⟨w3.heap.size, 4, none⟩ = some (.int .i64 r.At) := cellOf gR7.out rfl
        rw [hat4.out] at y4
        obtain ⟨ad, c', v2, hvv, _, n1, n2, n3, _⟩ := Node.elem (h0.out.below hb7.out) hna
        cases hvv
        rw [hN2] at n1 n3
        obtain ⟨A2, c2, rfl, _, _⟩ := rep_len n3
        replace n3 := Asd.mk n3
        have hnai : (na : Int) < (W.Nodes.length : Int) := by omega
        go_upto_region 13 with (fail)
        have hkeep := Asd.mk (show ∀ Q, Below w7.heap.size w7 Q → (Below w7.heap.size w7 Q ∧ Q.cell? ⟨w.heap.size, 0, none⟩ = some (.slice (some ad) W.Nodes.length c) ∧ Q.cell? ⟨(ad.add (na * 3)).block, (ad.add (na * 3)).off + 1, none⟩ = some (.int .i64 a.Cost) ∧ Q.cell? ⟨(ad.add (na * 3)).block, (ad.add (na * 3)).off + 2, none⟩ = some (.slice A2 a.Steps.length c2)) from fun Q hb => ⟨hb, cell_below hb a07, cell_below hb n1, cell_below hb n2⟩)
        go_cut [10] (fun s10 wx => ∃ fb, s10 = .pointer (some ⟨fb, 0, none⟩) ∧ w7.heap.size ≤ fb ∧ wx.heap[fb]? = some (.cells #[.int .i64 a.Cost, .slice A2 a.Steps.length c2] 111 (0, 0)) ∧ Below w7.heap.size w7 wx)
        case first =>
          have s_0 : Below w7.heap.size w7 w7.drew := (Below.refl _ _).drew
          go_region_held3 (fun Q => Below w7.heap.size w7 Q ∧ Q.cell? ⟨w.heap.size, 0, none⟩ = some (.slice (some ad) W.Nodes.length c) ∧ Q.cell? ⟨(ad.add (na * 3)).block, (ad.add (na * 3)).off + 1, none⟩ = some (.int .i64 a.Cost) ∧ Q.cell? ⟨(ad.add (na * 3)).block, (ad.add (na * 3)).off + 2, none⟩ = some (.slice A2 a.Steps.length c2)) ((refine hkeep.out _ ?_; (repeat (first | (with_reducible exact Below.refl _ _) | (with_reducible exact s_0) | (with_reducible refine below_al ?_ _) | (with_reducible refine below_dr ?_ _) | (with_reducible refine below_d1 ?_) | ((with_reducible refine Below.setCell ?_ ?_ _); rotate_left; (next => first | (simp; done) | (simp; omega) | omega))))))
            (first | (go_at_call 91; refine (l2At_calls W p _ (Web.rmk W (h0.out.below (below_st hb7.out (show Below w7.heap.size w7 _ from by (repeat (first | (with_reducible exact Below.refl _ _) | (with_reducible exact s_0) | (with_reducible refine below_al ?_ _) | (with_reducible refine below_dr ?_ _) | (with_reducible refine below_d1 ?_) | ((with_reducible refine Below.setCell ?_ ?_ _); rotate_left; (next => first | (simp; done) | (simp; omega) | omega))))))))).mono ?_; rw [hN1.out]; rintro e' w8 ⟨rfl, hb⟩; obtain ⟨s_0, s_1, s_2, s_3⟩ := hkeep.out _ (below_st (show Below w7.heap.size w7 _ from by (repeat (first | (with_reducible exact Below.refl _ _) | (with_reducible exact s_0) | (with_reducible refine below_al ?_ _) | (with_reducible refine below_dr ?_ _) | (with_reducible refine below_d1 ?_) | ((with_reducible refine Below.setCell ?_ ?_ _); rotate_left; (next => first | (simp; done) | (simp; omega) | omega))))) hb); obtain ⟨hcx, hfx⟩ := bcell hb; replace hb := Asd.mk hb))
          all_goals (go_wp2_with fail; go_meet)
          · exact ⟨_, rfl, s_0.size, heap_alloc_new _ _, by repeat (first | (with_reducible exact Below.refl _ _) | (with_reducible exact s_0) | (with_reducible refine below_al ?_ _) | (with_reducible refine below_dr ?_ _) | (with_reducible refine below_d1 ?_) | ((with_reducible refine Below.setCell ?_ ?_ _); rotate_left; (next => first | (simp; done) | (simp; omega) | omega)))⟩
          · refine ⟨_, rfl, Nat.le_refl _, ?_, by repeat (first | (with_reducible exact Below.refl _ _) | (with_reducible exact s_0) | (with_reducible refine below_al ?_ _) | (with_reducible refine below_dr ?_ _) | (with_reducible refine below_d1 ?_) | ((with_reducible refine Below.setCell ?_ ?_ _); rotate_left; (next => first | (simp; done) | (simp; omega) | omega)))⟩
            exact heap_set1 (heap_set1 ((hb.out.block _ (by simp)).trans (heap_alloc_new _ _)) 0 _) 1 _
        case rest =>
          obtain ⟨fb, rfl, zfb, gf, hbc⟩ := hcut
          obtain ⟨Z, eZ⟩ : ∃ Z, Z = wc := ⟨_, rfl⟩
          rw [← eZ] at gf hbc ⊢
          clear eZ hkeep n1 n2 a07
          have f1 : Z.cell? ⟨fb, 1, none⟩ = some (.slice A2 a.Steps.length c2) := cellOf gf rfl
          replace y3 := cell_below hbc y3
          replace y4 := cell_below hbc y4
          obtain ⟨ad2, c3, q0, q2, hvv, _, _, _, _, _, m5, _⟩ := Step.elem (n3.out.below hbc) hnl
          cases hvv
          have hnli : (n : Int) < (a.Steps.length : Int) := by omega
          have gAZ := Asd.mk ((hbc.block _ (by omega)).trans gA7.out)
          have gBZ := Asd.mk ((hbc.block _ (by omega)).trans gB7.out)
          have hLZ := Asd.mk (hL7r.out.below hbc)
          have hbZ := Asd.mk (below_st hb7.out hbc)
          obtain ⟨tx, htx⟩ : ∃ tx, r.Text = tx := ⟨_, rfl⟩
          obtain ⟨E, hE2⟩ : ∃ E, a.Steps[n].End = E := ⟨_, rfl⟩
          rw [htx] at y3
          rw [hE2] at m5
          have hT2 := h2.out
          have hst2 := hst.out
          clear gf hbc
          cases hWl.out with
          | stop j1 j2 j3 j4 =>
            rw [hr0.out] at j1
            cases j1
            have hT3 := Asd.mk hT2
            rw [hst2, hE2, htx] at j4
            clear j2 j3 hT2 hst2 hE2 htx h2
            cases E with
            | true =>
              clear j4
              go_wp2
              go_ret
              rw [hq.out, ← hT3.out, ← hn7']
              exact ⟨_, rfl, ⟨F7, hLZ.out, hn8, fun b hb => by have := hs7'.out b hb; omega⟩, hbZ.out⟩
            | false =>
              have hsp : (tx.toList == [115, 112, 101, 110, 116]) = true := by
                rw [← spent_list]
                rw [ba_eq]; rcases j4 with h | h
                · cases h
                · exact h
              clear j4
              go_wp2
              go_ret
              rw [hq.out, ← hT3.out, ← hn7']
              exact ⟨_, rfl, ⟨F7, hLZ.out, hn8, fun b hb => by have := hs7'.out b hb; omega⟩, hbZ.out⟩
          | gone j1 j2 j3 j4 j5 j6 j7 =>
            rename_i X2 r3 e3
            rw [hr0.out] at j1
            cases j1
            rw [hst2, hE2] at j4
            subst j4
            rw [htx] at j5
            have hsp : (tx.toList == [115, 112, 101, 110, 116]) = false := by
              rw [← spent_list]
              rw [Bool.eq_false_iff]; intro h; rw [ba_eq, j5] at h; exact spent_below _ h.symm
            have ht6 : 6 ≤ tx.size := by rw [j5, belowT_size]; omega
            have hte := ext_below X2 (n := tx.size) (by rw [j5])
            rw [← j5] at hte
            have hpl2 : (pre ++ [p]).length ≤ 2703 := by
              have := congrArg List.length hT2
              have h9 := hst0.out.len
              simp only [List.length_append, List.length_cons, List.length_nil] at this h9 ⊢
              omega
            clear j2 j3 j5
            have hat := Asd.mk (show WhyS W s.Runs T (pre ++ [p]) X2 0 from .none j7 (by rw [if_neg (by simp), ← hT2]; simp))
            clear j6 j7 hT2 hst2 hE2 htx h2
            go_wp2
            go_roundg 1
            case measure => simp only [List.length_cons, List.length_nil] at hkk; omega
            case rel => exact ⟨_, _, _, F7, rfl, hat.out, by omega, by rw [← hn7']; exact hLZ.out, hn8, hs7'.out, hpl2, gAZ.out, gBZ.out, hbZ.out⟩
          | next j1 j2 j3 j4 j5 j6 =>
            rename_i X2 r3 l2 e3
            rw [hr0.out] at j1
            cases j1
            rw [hst2, hE2] at j4
            subst j4
            rw [htx] at j5
            have hsp : (tx.toList == [115, 112, 101, 110, 116]) = false := by
              rw [← spent_list]
              rw [Bool.eq_false_iff]; intro h; rw [ba_eq, j5] at h; exact spent_below _ h.symm
            have ht6 : 6 ≤ tx.size := by rw [j5, belowT_size]; omega
            have hte := ext_below X2 (n := tx.size) (by rw [j5])
            rw [← j5] at hte
            have hpl2 : (pre ++ [p]).length ≤ 2703 := by
              have := congrArg List.length hT2
              have h9 := hst0.out.len
              simp only [List.length_append, List.length_cons, List.length_nil] at this h9 ⊢
              omega
            clear j2 j3 j5
            have hat := Asd.mk (show WhyS W s.Runs T (pre ++ [p]) X2 l2.length from .run j6 (by rw [← hT2]; simp))
            clear j6 hT2 hst2 hE2 htx h2
            go_wp2
            go_roundg (l2.length + 1)
            case measure => simp only [List.length_cons] at hkk; omega
            case rel => exact ⟨_, _, _, F7, rfl, hat.out, by omega, by rw [← hn7']; exact hLZ.out, hn8, hs7'.out, hpl2, gAZ.out, gBZ.out, hbZ.out⟩
end Go.Proofs.YtkpkfihaihoaeaaGreatDoor.M
end
section
set_option linter.unusedVariables false
set_option linter.unusedSimpArgs false
namespace Go.Proofs.YtkpkfihaihoaeaaGreatDoor.M
open Go.RowKit
theorem whyC_cnt (t : Nat) (W : Web) (s : State) (q : ByteArray) : cnt (strsT t (whyC W s q)) ≤ 2703 := by
  rw [strs_cnt_len]
  cases h : validS W s with
  | true =>
    obtain ⟨hw, _, hR⟩ := validS_reach h
    rw [whyC_yes h]
    obtain ⟨n, hn, hs⟩ := WhyS.start hw hR q
    have := hs.len
    simp only [List.length_nil] at this
    omega
  | false => rw [whyC_no h]; simp
end Go.Proofs.YtkpkfihaihoaeaaGreatDoor.M
end
section
set_option linter.unusedVariables false
set_option linter.unusedSimpArgs false
namespace Go.Proofs.YtkpkfihaihoaeaaGreatDoor.M
open Go.RowKit

set_option maxRecDepth 100000 in
set_option maxHeartbeats 4000000 in
theorem FnExactWhy_calls {tNode0 tStep0 tCase0 tRun1 : Nat} (x0 : Web) (x1 : State) (x2 : ByteArray) (w : World) {vs0 : List Value} (h0 : reps w (x0.c tNode0 tStep0 tCase0) vs0) (hz0 : x0.Zm) {vs1 : List Value} (h1 : reps w (x1.c tRun1) vs1) (hz1 : x1.Zm) (hz2 : x2.size ≤ 9223372036854775807) (hg : 3 < w.heap.size) (ht : w.cell? ⟨3, 15, none⟩ = some (.int .u8 4)) :
    Calls Tryz.prog 7 #[.agg vs0.toArray, .agg vs1.toArray, .string x2] w fun e w' => e = .returned (.bool true) ∧ Below w.heap.size w w' := by
  have H0 := Asd.mk h0
  obtain ⟨u0_0, rfl, g0_0⟩ := Web.ropen h0
  obtain ⟨A0_0, C0_0, rfl, _, _⟩ := rep_len g0_0
  clear g0_0
  clear h0
  replace hz0 := Asd.mk hz0
  have H1 := Asd.mk h1
  obtain ⟨u1_0, u1_1, rfl, g1_0, g1_1⟩ := State.ropen h1
  obtain ⟨A1_0, C1_0, rfl, _, _⟩ := rep_len g1_0
  clear g1_0
  obtain ⟨A1_1, C1_1, rfl, _, _⟩ := rep_len g1_1
  clear g1_1
  clear h1
  replace hz1 := Asd.mk hz1
  replace hz2 := Asd.mk hz2
  by_cases qs2 : ((x2.size : Nat) : Int) ≤ 1048576
  rotate_left
  · replace qs2 : (1048576 : Int) < (x2.size : Nat) := by omega
    have hs2 := hz2.out
    go_enter Tryz.func7, Tryz.ntmps7
    go_wp2
    go_ret
    exact ⟨rfl, below_al (below_al (Below.refl _ _) _) _⟩
  have hs2 := hz2.out
  have qn2 : ¬(1048576 : Int) < (x2.size : Nat) := by omega
  by_cases q0 : ((x0.bk : Nat) : Int) ≤ 1048576
  rotate_left
  · have e0 : szI (x0.bk) (1048576) = -1 := szI_no q0
    go_enter Tryz.func7, Tryz.ntmps7
    go_wp2_with fail
    refine (szWeb_calls x0 _ _ (H0.out.below (below_al (below_al (Below.refl _ _) _) _)) (by omega) (by omega) hz0.out).mono ?_
    rintro e w1 ⟨rfl, hb⟩
    have hF := Far.of_below hb
    have zs1 : w.heap.size + 1 + 1 ≤ w1.heap.size := by have := hF.size; (try simp at this); omega
    have c0_0 : w1.cell? ⟨w.heap.size, 0, none⟩ = some (.slice A0_0 x0.Nodes.length C0_0) := by rw [hF.cell (by first | (simp; done) | (simp; omega) | omega) (by omega)]; first | exact c0_0 | go_simp
    have c1_0 : w1.cell? ⟨w.heap.size + 1, 0, none⟩ = some (.slice A1_0 x1.Roots.length C1_0) := by rw [hF.cell (by first | (simp; done) | (simp; omega) | omega) (by omega)]; first | exact c1_0 | go_simp
    have c1_1 : w1.cell? ⟨w.heap.size + 1, 1, none⟩ = some (.slice A1_1 x1.Runs.length C1_1) := by rw [hF.cell (by first | (simp; done) | (simp; omega) | omega) (by omega)]; first | exact c1_1 | go_simp
    have z0 : w.heap.size < w1.heap.size := by omega
    have z1 : w.heap.size + 1 < w1.heap.size := by omega
    have HB_1 := Asd.mk (Far.trans3 (below_al (below_al (Below.refl _ _) _) _) hF (by omega))
    clear hF hb
    go_wp2
    go_ret
    exact ⟨rfl, HB_1.out⟩
  have e0 : szI (x0.bk) (1048576) = 1048576 - (x0.bk : Nat) := szI_yes q0
  by_cases q1 : ((x1.bk : Nat) : Int) ≤ 1048576 - (x0.bk : Nat)
  rotate_left
  · have e1 : szI (x1.bk) (1048576 - (x0.bk : Nat)) = -1 := szI_no q1
    go_enter Tryz.func7, Tryz.ntmps7
    go_wp2_with fail
    refine (szWeb_calls x0 _ _ (H0.out.below (below_al (below_al (Below.refl _ _) _) _)) (by omega) (by omega) hz0.out).mono ?_
    rintro e w1 ⟨rfl, hb⟩
    have hF := Far.of_below hb
    have zs1 : w.heap.size + 1 + 1 ≤ w1.heap.size := by have := hF.size; (try simp at this); omega
    have c0_0 : w1.cell? ⟨w.heap.size, 0, none⟩ = some (.slice A0_0 x0.Nodes.length C0_0) := by rw [hF.cell (by first | (simp; done) | (simp; omega) | omega) (by omega)]; first | exact c0_0 | go_simp
    have c1_0 : w1.cell? ⟨w.heap.size + 1, 0, none⟩ = some (.slice A1_0 x1.Roots.length C1_0) := by rw [hF.cell (by first | (simp; done) | (simp; omega) | omega) (by omega)]; first | exact c1_0 | go_simp
    have c1_1 : w1.cell? ⟨w.heap.size + 1, 1, none⟩ = some (.slice A1_1 x1.Runs.length C1_1) := by rw [hF.cell (by first | (simp; done) | (simp; omega) | omega) (by omega)]; first | exact c1_1 | go_simp
    have z0 : w.heap.size < w1.heap.size := by omega
    have z1 : w.heap.size + 1 < w1.heap.size := by omega
    have HB_1 := Asd.mk (Far.trans3 (below_al (below_al (Below.refl _ _) _) _) hF (by omega))
    clear hF hb
    go_wp2_with fail
    refine (szState_calls x1 _ _ (H1.out.below (HB_1.out)) (by omega) (by omega) hz1.out).mono ?_
    rintro e w2 ⟨rfl, hb⟩
    have hF := Far.of_below hb
    have zs2 : w1.heap.size ≤ w2.heap.size := by have := hF.size; (try simp at this); omega
    replace c0_0 : w2.cell? ⟨w.heap.size, 0, none⟩ = some (.slice A0_0 x0.Nodes.length C0_0) := by rw [hF.cell (by first | (simp; done) | (simp; omega) | omega) (by omega)]; first | exact c0_0 | go_simp
    replace c1_0 : w2.cell? ⟨w.heap.size + 1, 0, none⟩ = some (.slice A1_0 x1.Roots.length C1_0) := by rw [hF.cell (by first | (simp; done) | (simp; omega) | omega) (by omega)]; first | exact c1_0 | go_simp
    replace c1_1 : w2.cell? ⟨w.heap.size + 1, 1, none⟩ = some (.slice A1_1 x1.Runs.length C1_1) := by rw [hF.cell (by first | (simp; done) | (simp; omega) | omega) (by omega)]; first | exact c1_1 | go_simp
    replace z0 : w.heap.size < w2.heap.size := by omega
    replace z1 : w.heap.size + 1 < w2.heap.size := by omega
    have HB_2 := Asd.mk (Far.trans3 (HB_1.out) hF (by omega))
    clear hF hb
    go_wp2
    go_ret
    exact ⟨rfl, HB_2.out⟩
  have e1 : szI (x1.bk) (1048576 - (x0.bk : Nat)) = 1048576 - (x0.bk : Nat) - (x1.bk : Nat) := szI_yes q1
  obtain ⟨g, gx⟩ : ∃ g, whyC x0 x1 x2 = g := ⟨_, rfl⟩
  obtain ⟨KA0, ka0⟩ : ∃ K, 1 + cntl (x0.c 113 121 213) = K := ⟨_, rfl⟩
  have la0 : 1 ≤ KA0 := by omega
  obtain ⟨KA1, ka1⟩ : ∃ K, KA0 + cntl (x1.c 84) = K := ⟨_, rfl⟩
  have la1 : KA0 ≤ KA1 := by omega
  obtain ⟨KG0, kg0⟩ : ∃ K, 1 + cnt (strsT 9 g) = K := ⟨_, rfl⟩
  have lg0 : 1 ≤ KG0 := by omega
  have hc_ : cntl (x0.c 113 121 213) ≤ 6 * x0.bk := Web.cnt_le x0
  have hc2_ : cntl (x1.c 84) ≤ 6 * x1.bk := State.cnt_le _ x1
  have hg_ : cnt (strsT 9 g) ≤ 3000 := by rw [← gx]; exact Nat.le_trans (whyC_cnt _ x0 x1 x2) (by decide)
  have hKA : KA1 ≤ 1000000000 := by omega
  have hKG : KG0 ≤ 1000000000 := by omega
  replace ka0 := Asd.mk ka0
  replace ka1 := Asd.mk ka1
  replace kg0 := Asd.mk kg0
  clear hc_
  go_enter Tryz.func7, Tryz.ntmps7
  go_wp2_with fail
  refine (szWeb_calls x0 _ _ (H0.out.below (below_al (below_al (Below.refl _ _) _) _)) (by omega) (by omega) hz0.out).mono ?_
  rintro e w1 ⟨rfl, hb⟩
  have hF := Far.of_below hb
  have zs1 : w.heap.size + 1 + 1 ≤ w1.heap.size := by have := hF.size; (try simp at this); omega
  have c0_0 : w1.cell? ⟨w.heap.size, 0, none⟩ = some (.slice A0_0 x0.Nodes.length C0_0) := by rw [hF.cell (by first | (simp; done) | (simp; omega) | omega) (by omega)]; first | exact c0_0 | go_simp
  have c1_0 : w1.cell? ⟨w.heap.size + 1, 0, none⟩ = some (.slice A1_0 x1.Roots.length C1_0) := by rw [hF.cell (by first | (simp; done) | (simp; omega) | omega) (by omega)]; first | exact c1_0 | go_simp
  have c1_1 : w1.cell? ⟨w.heap.size + 1, 1, none⟩ = some (.slice A1_1 x1.Runs.length C1_1) := by rw [hF.cell (by first | (simp; done) | (simp; omega) | omega) (by omega)]; first | exact c1_1 | go_simp
  have z0 : w.heap.size < w1.heap.size := by omega
  have z1 : w.heap.size + 1 < w1.heap.size := by omega
  have HB_1 := Asd.mk (Far.trans3 (below_al (below_al (Below.refl _ _) _) _) hF (by omega))
  clear hF hb
  go_wp2_with fail
  refine (szState_calls x1 _ _ (H1.out.below (HB_1.out)) (by omega) (by omega) hz1.out).mono ?_
  rintro e w2 ⟨rfl, hb⟩
  have hF := Far.of_below hb
  have zs2 : w1.heap.size ≤ w2.heap.size := by have := hF.size; (try simp at this); omega
  replace c0_0 : w2.cell? ⟨w.heap.size, 0, none⟩ = some (.slice A0_0 x0.Nodes.length C0_0) := by rw [hF.cell (by first | (simp; done) | (simp; omega) | omega) (by omega)]; first | exact c0_0 | go_simp
  replace c1_0 : w2.cell? ⟨w.heap.size + 1, 0, none⟩ = some (.slice A1_0 x1.Roots.length C1_0) := by rw [hF.cell (by first | (simp; done) | (simp; omega) | omega) (by omega)]; first | exact c1_0 | go_simp
  replace c1_1 : w2.cell? ⟨w.heap.size + 1, 1, none⟩ = some (.slice A1_1 x1.Runs.length C1_1) := by rw [hF.cell (by first | (simp; done) | (simp; omega) | omega) (by omega)]; first | exact c1_1 | go_simp
  replace z0 : w.heap.size < w2.heap.size := by omega
  replace z1 : w.heap.size + 1 < w2.heap.size := by omega
  have HB_2 := Asd.mk (Far.trans3 (HB_1.out) hF (by omega))
  clear hF hb
  have hkeep := Asd.mk (show ∀ W, Below w2.heap.size w2 W → (Below w2.heap.size w2 W ∧ W.cell? ⟨w.heap.size, 0, none⟩ = some (.slice A0_0 x0.Nodes.length C0_0) ∧ W.cell? ⟨w.heap.size + 1, 0, none⟩ = some (.slice A1_0 x1.Roots.length C1_0) ∧ W.cell? ⟨w.heap.size + 1, 1, none⟩ = some (.slice A1_1 x1.Runs.length C1_1)) from fun W hb => ⟨hb, cell_below hb c0_0, cell_below hb c1_0, cell_below hb c1_1⟩)
  have s_0 : Below w2.heap.size w2 w2.drew := (Below.refl _ _).drew
  go_wp2
  go_region_held3 (fun W => Below w2.heap.size w2 W ∧ W.cell? ⟨w.heap.size, 0, none⟩ = some (.slice A0_0 x0.Nodes.length C0_0) ∧ W.cell? ⟨w.heap.size + 1, 0, none⟩ = some (.slice A1_0 x1.Roots.length C1_0) ∧ W.cell? ⟨w.heap.size + 1, 1, none⟩ = some (.slice A1_1 x1.Runs.length C1_1)) ((refine hkeep.out _ ?_; (repeat (first | (with_reducible exact Below.refl _ _) | (with_reducible exact s_0) | (with_reducible refine below_al ?_ _) | (with_reducible refine below_dr ?_ _) | (with_reducible refine below_d1 ?_) | ((with_reducible refine Below.setCell ?_ ?_ _); rotate_left; (next => first | (simp; done) | (simp; omega) | omega))))))
    (first | (go_at_call 18; refine (toWeb_calls x0 _ (H0.out.below (below_st (HB_2.out) (show Below w2.heap.size w2 _ from by repeat (first | (with_reducible exact Below.refl _ _) | (with_reducible exact s_0) | (with_reducible refine below_al ?_ _) | (with_reducible refine below_dr ?_ _) | (with_reducible refine below_d1 ?_) | ((with_reducible refine Below.setCell ?_ ?_ _); rotate_left; (next => first | (simp; done) | (simp; omega) | omega)))))) (by omega)).mono ?_; rintro e W0 ⟨us, rfl, ⟨F_, o_, n_, l_⟩, hb⟩; obtain ⟨v_0, G_0, rfl, p_0, rfl⟩ := Web.oopen o_; obtain ⟨D0_0, d0_0, rfl, _, _⟩ := own_slice p_0; have r_s0 := Asd.mk o_.rep; obtain ⟨s_0, s_1, s_2, s_3⟩ := hkeep.out _ (below_st (show Below w2.heap.size w2 _ from by repeat (first | (with_reducible exact Below.refl _ _) | (with_reducible exact s_0) | (with_reducible refine below_al ?_ _) | (with_reducible refine below_dr ?_ _) | (with_reducible refine below_d1 ?_) | ((with_reducible refine Below.setCell ?_ ?_ _); rotate_left; (next => first | (simp; done) | (simp; omega) | omega)))) hb); clear hb o_ l_ n_ p_0) | (go_at_call 19; refine (toState_calls x1 _ (H1.out.below (below_st (HB_2.out) (show Below w2.heap.size w2 _ from by repeat (first | (with_reducible exact Below.refl _ _) | (with_reducible exact s_0) | (with_reducible refine below_al ?_ _) | (with_reducible refine below_dr ?_ _) | (with_reducible refine below_d1 ?_) | ((with_reducible refine Below.setCell ?_ ?_ _); rotate_left; (next => first | (simp; done) | (simp; omega) | omega)))))) (by omega)).mono ?_; rintro e W1 ⟨us, rfl, ⟨F_, o_, n_, l_⟩, hb⟩; obtain ⟨v_0, G_0, v_1, G_1, rfl, p_0, p_1, rfl⟩ := State.oopen o_; obtain ⟨D1_0, d1_0, rfl, _, _⟩ := own_slice p_0; obtain ⟨D1_1, d1_1, rfl, _, _⟩ := own_slice p_1; have r_s1 := Asd.mk o_.rep; replace r_s0 := Asd.mk (r_s0.out.below (below_st (by repeat (first | (with_reducible exact Below.refl _ _) | (with_reducible exact Below.refl _ _) | (with_reducible refine below_al ?_ _) | (with_reducible refine below_dr ?_ _) | (with_reducible refine below_d1 ?_) | ((with_reducible refine Below.setCell ?_ ?_ _); rotate_left; (next => first | (simp; done) | (simp; omega) | omega)))) hb)); obtain ⟨s_0, s_1, s_2, s_3⟩ := hkeep.out _ (below_st (show Below w2.heap.size w2 _ from by repeat (first | (with_reducible exact Below.refl _ _) | (with_reducible exact s_0) | (with_reducible refine below_al ?_ _) | (with_reducible refine below_dr ?_ _) | (with_reducible refine below_d1 ?_) | ((with_reducible refine Below.setCell ?_ ?_ _); rotate_left; (next => first | (simp; done) | (simp; omega) | omega)))) hb); clear hb o_ l_ n_ p_0 p_1) | (go_at_call 45; refine (sWhy_calls x0 x1 x2 _ (r_s0.out.below (by repeat (first | (with_reducible exact Below.refl _ _) | (with_reducible exact Below.refl _ _) | (with_reducible refine below_al ?_ _) | (with_reducible refine below_dr ?_ _) | (with_reducible refine below_d1 ?_) | ((with_reducible refine Below.setCell ?_ ?_ _); rotate_left; (next => first | (simp; done) | (simp; omega) | omega))))) (r_s1.out.below (by repeat (first | (with_reducible exact Below.refl _ _) | (with_reducible exact Below.refl _ _) | (with_reducible refine below_al ?_ _) | (with_reducible refine below_dr ?_ _) | (with_reducible refine below_d1 ?_) | ((with_reducible refine Below.setCell ?_ ?_ _); rotate_left; (next => first | (simp; done) | (simp; omega) | omega))))) (Web.zsm hz0.out)).mono ?_; rw [gx]; rintro e w3 ⟨v_, rfl, hM, hb⟩; have I_w0 : Asd (Iv _ w3.heap.size w3 ([strsT 9 g]) [v_]) := Asd.mk ((Iv.of_lie hM.lie).mono (Nat.le_refl _) (Nat.le_refl _)); obtain ⟨F_, o_, _, _⟩ := hM; obtain ⟨Aw0, Cw0, rfl, _, _⟩ := own_slice o_; clear o_; obtain ⟨s_0, s_1, s_2, s_3⟩ := hkeep.out _ (below_st (show Below w2.heap.size w2 _ from by repeat (first | (with_reducible exact Below.refl _ _) | (with_reducible exact s_0) | (with_reducible refine below_al ?_ _) | (with_reducible refine below_dr ?_ _) | (with_reducible refine below_d1 ?_) | ((with_reducible refine Below.setCell ?_ ?_ _); rotate_left; (next => first | (simp; done) | (simp; omega) | omega)))) hb); clear hb))
  have hF : Far 0 0 w2 w3 := Far.of_below s_0
  clear hkeep s_0 s_1 s_2 s_3 r_s0 r_s1
  have zs3 : w2.heap.size ≤ w3.heap.size := by have := hF.size; (try simp at this); omega
  replace c0_0 : w3.cell? ⟨w.heap.size, 0, none⟩ = some (.slice A0_0 x0.Nodes.length C0_0) := by rw [hF.cell (by first | (simp; done) | (simp; omega) | omega) (by omega)]; first | exact c0_0 | go_simp
  replace c1_0 : w3.cell? ⟨w.heap.size + 1, 0, none⟩ = some (.slice A1_0 x1.Roots.length C1_0) := by rw [hF.cell (by first | (simp; done) | (simp; omega) | omega) (by omega)]; first | exact c1_0 | go_simp
  replace c1_1 : w3.cell? ⟨w.heap.size + 1, 1, none⟩ = some (.slice A1_1 x1.Runs.length C1_1) := by rw [hF.cell (by first | (simp; done) | (simp; omega) | omega) (by omega)]; first | exact c1_1 | go_simp
  replace z0 : w.heap.size < w3.heap.size := by omega
  replace z1 : w.heap.size + 1 < w3.heap.size := by omega
  have HB_3 := Asd.mk (Far.trans3 (HB_2.out) hF (by omega))
  clear hF
  go_wp2_with fail
  refine (toWeb_calls x0 _ (H0.out.below (HB_3.out)) (by omega)).mono ?_
  rintro e w4 ⟨us, rfl, hM, hb⟩
  have hF := Far.of_below hb
  have I_i0 : Asd (Iv (w3.heap.size) w4.heap.size w4 (x0.c 113 121 213) us) := Asd.mk ((Iv.of_mades hM).mono (by simp) (Nat.le_refl _))
  obtain ⟨F_, o_, _, _⟩ := hM
  obtain ⟨v_0, G_0, rfl, p_0, rfl⟩ := Web.oopen o_
  obtain ⟨Ai0_0, Ci0_0, rfl, _, _⟩ := own_slice p_0
  clear o_ p_0
  have zs4 : w3.heap.size ≤ w4.heap.size := by have := hF.size; (try simp at this); omega
  replace c0_0 : w4.cell? ⟨w.heap.size, 0, none⟩ = some (.slice A0_0 x0.Nodes.length C0_0) := by rw [hF.cell (by first | (simp; done) | (simp; omega) | omega) (by omega)]; first | exact c0_0 | go_simp
  replace c1_0 : w4.cell? ⟨w.heap.size + 1, 0, none⟩ = some (.slice A1_0 x1.Roots.length C1_0) := by rw [hF.cell (by first | (simp; done) | (simp; omega) | omega) (by omega)]; first | exact c1_0 | go_simp
  replace c1_1 : w4.cell? ⟨w.heap.size + 1, 1, none⟩ = some (.slice A1_1 x1.Runs.length C1_1) := by rw [hF.cell (by first | (simp; done) | (simp; omega) | omega) (by omega)]; first | exact c1_1 | go_simp
  replace z0 : w.heap.size < w4.heap.size := by omega
  replace z1 : w.heap.size + 1 < w4.heap.size := by omega
  have HB_4 := Asd.mk (Far.trans3 (HB_3.out) hF (by omega))
  replace I_w0 := Asd.mk ((I_w0.out.below (Below.refl _ _)).far hF (by omega))
  clear hF hb
  go_wp2_with fail
  refine (toState_calls x1 _ (H1.out.below (below_al (HB_4.out) _)) (by omega)).mono ?_
  rintro e w5 ⟨us, rfl, hM, hb⟩
  have hF := Far.of_below hb
  have I_i1 : Asd (Iv (w4.heap.size + 1) w5.heap.size w5 (x1.c 84) us) := Asd.mk ((Iv.of_mades hM).mono (by simp) (Nat.le_refl _))
  obtain ⟨F_, o_, _, _⟩ := hM
  obtain ⟨v_0, G_0, v_1, G_1, rfl, p_0, p_1, rfl⟩ := State.oopen o_
  obtain ⟨Ai1_0, Ci1_0, rfl, _, _⟩ := own_slice p_0
  obtain ⟨Ai1_1, Ci1_1, rfl, _, _⟩ := own_slice p_1
  clear o_ p_0 p_1
  have zs5 : w4.heap.size + 1 ≤ w5.heap.size := by have := hF.size; (try simp at this); omega
  replace c0_0 : w5.cell? ⟨w.heap.size, 0, none⟩ = some (.slice A0_0 x0.Nodes.length C0_0) := by rw [hF.cell (by first | (simp; done) | (simp; omega) | omega) (by omega)]; first | exact c0_0 | go_simp
  replace c1_0 : w5.cell? ⟨w.heap.size + 1, 0, none⟩ = some (.slice A1_0 x1.Roots.length C1_0) := by rw [hF.cell (by first | (simp; done) | (simp; omega) | omega) (by omega)]; first | exact c1_0 | go_simp
  replace c1_1 : w5.cell? ⟨w.heap.size + 1, 1, none⟩ = some (.slice A1_1 x1.Runs.length C1_1) := by rw [hF.cell (by first | (simp; done) | (simp; omega) | omega) (by omega)]; first | exact c1_1 | go_simp
  have c2_0 : w5.cell? ⟨w4.heap.size, 0, none⟩ = some (.slice Ai0_0 x0.Nodes.length Ci0_0) := by rw [hF.cell (by first | (simp; done) | (simp; omega) | omega) (by omega)]; first | exact c2_0 | go_simp
  replace z0 : w.heap.size < w5.heap.size := by omega
  replace z1 : w.heap.size + 1 < w5.heap.size := by omega
  have z2 : w4.heap.size < w5.heap.size := by omega
  have HB_5 := Asd.mk (Far.trans3 (below_al (HB_4.out) _) hF (by omega))
  replace I_w0 := Asd.mk ((I_w0.out.below (below_al (Below.refl _ _) _)).far hF (by omega))
  replace I_i0 := Asd.mk ((I_i0.out.below (below_al (Below.refl _ _) _)).far hF (by omega))
  clear hF hb
  go_wp2_with fail
  refine (Why_calls x0 x1 x2 _ (I_i0.out.reps.below (below_al (Below.refl _ _) _)) (I_i1.out.reps.below (below_al (Below.refl _ _) _)) (Web.zsm hz0.out) (Nat.lt_of_lt_of_le hg (below_al (HB_5.out) _).size) (cell_below (below_al (HB_5.out) _) ht)).mono ?_
  rw [gx]
  rintro e w6 ⟨v_, rfl, hM, hb⟩
  have hF := Far.of_below hb
  have I_g0 : Asd (Iv (w5.heap.size + 1) w6.heap.size w6 ([strsT 9 g]) [v_]) := Asd.mk ((Iv.of_lie hM.lie).mono (by simp) (Nat.le_refl _))
  obtain ⟨F_, o_, _, _⟩ := hM
  obtain ⟨Ag0, Cg0, rfl, _, _⟩ := own_slice o_
  clear o_
  have zs6 : w5.heap.size + 1 ≤ w6.heap.size := by have := hF.size; (try simp at this); omega
  replace c0_0 : w6.cell? ⟨w.heap.size, 0, none⟩ = some (.slice A0_0 x0.Nodes.length C0_0) := by rw [hF.cell (by first | (simp; done) | (simp; omega) | omega) (by omega)]; first | exact c0_0 | go_simp
  replace c1_0 : w6.cell? ⟨w.heap.size + 1, 0, none⟩ = some (.slice A1_0 x1.Roots.length C1_0) := by rw [hF.cell (by first | (simp; done) | (simp; omega) | omega) (by omega)]; first | exact c1_0 | go_simp
  replace c1_1 : w6.cell? ⟨w.heap.size + 1, 1, none⟩ = some (.slice A1_1 x1.Runs.length C1_1) := by rw [hF.cell (by first | (simp; done) | (simp; omega) | omega) (by omega)]; first | exact c1_1 | go_simp
  replace c2_0 : w6.cell? ⟨w4.heap.size, 0, none⟩ = some (.slice Ai0_0 x0.Nodes.length Ci0_0) := by rw [hF.cell (by first | (simp; done) | (simp; omega) | omega) (by omega)]; first | exact c2_0 | go_simp
  have c3_0 : w6.cell? ⟨w5.heap.size, 0, none⟩ = some (.slice Ai1_0 x1.Roots.length Ci1_0) := by rw [hF.cell (by first | (simp; done) | (simp; omega) | omega) (by omega)]; first | exact c3_0 | go_simp
  have c3_1 : w6.cell? ⟨w5.heap.size, 1, none⟩ = some (.slice Ai1_1 x1.Runs.length Ci1_1) := by rw [hF.cell (by first | (simp; done) | (simp; omega) | omega) (by omega)]; first | exact c3_1 | go_simp
  replace z0 : w.heap.size < w6.heap.size := by omega
  replace z1 : w.heap.size + 1 < w6.heap.size := by omega
  replace z2 : w4.heap.size < w6.heap.size := by omega
  have z3 : w5.heap.size < w6.heap.size := by omega
  have HB_6 := Asd.mk (Far.trans3 (below_al (HB_5.out) _) hF (by omega))
  replace I_w0 := Asd.mk ((I_w0.out.below (below_al (Below.refl _ _) _)).far hF (by omega))
  replace I_i0 := Asd.mk ((I_i0.out.below (below_al (Below.refl _ _) _)).far hF (by omega))
  replace I_i1 := Asd.mk ((I_i1.out.below (below_al (Below.refl _ _) _)).far hF (by omega))
  clear hF hb
  have y_0 : eqB (g) (g) = true := eqB_yes rfl
  go_wp2_with fail
  refine (eqStringS_calls (g) (g) _ _ _ (reps_one (I_g0.out.reps.below (Below.refl _ _))) (reps_one (I_w0.out.reps.below (Below.refl _ _)))).mono ?_
  rintro e w7 ⟨rfl, hb⟩
  have hF := Far.of_below hb
  have zs7 : w6.heap.size ≤ w7.heap.size := by have := hF.size; (try simp at this); omega
  replace c0_0 : w7.cell? ⟨w.heap.size, 0, none⟩ = some (.slice A0_0 x0.Nodes.length C0_0) := by rw [hF.cell (by first | (simp; done) | (simp; omega) | omega) (by omega)]; first | exact c0_0 | go_simp
  replace c1_0 : w7.cell? ⟨w.heap.size + 1, 0, none⟩ = some (.slice A1_0 x1.Roots.length C1_0) := by rw [hF.cell (by first | (simp; done) | (simp; omega) | omega) (by omega)]; first | exact c1_0 | go_simp
  replace c1_1 : w7.cell? ⟨w.heap.size + 1, 1, none⟩ = some (.slice A1_1 x1.Runs.length C1_1) := by rw [hF.cell (by first | (simp; done) | (simp; omega) | omega) (by omega)]; first | exact c1_1 | go_simp
  replace c2_0 : w7.cell? ⟨w4.heap.size, 0, none⟩ = some (.slice Ai0_0 x0.Nodes.length Ci0_0) := by rw [hF.cell (by first | (simp; done) | (simp; omega) | omega) (by omega)]; first | exact c2_0 | go_simp
  replace c3_0 : w7.cell? ⟨w5.heap.size, 0, none⟩ = some (.slice Ai1_0 x1.Roots.length Ci1_0) := by rw [hF.cell (by first | (simp; done) | (simp; omega) | omega) (by omega)]; first | exact c3_0 | go_simp
  replace c3_1 : w7.cell? ⟨w5.heap.size, 1, none⟩ = some (.slice Ai1_1 x1.Runs.length Ci1_1) := by rw [hF.cell (by first | (simp; done) | (simp; omega) | omega) (by omega)]; first | exact c3_1 | go_simp
  replace z0 : w.heap.size < w7.heap.size := by omega
  replace z1 : w.heap.size + 1 < w7.heap.size := by omega
  replace z2 : w4.heap.size < w7.heap.size := by omega
  replace z3 : w5.heap.size < w7.heap.size := by omega
  have HB_7 := Asd.mk (Far.trans3 (HB_6.out) hF (by omega))
  replace I_w0 := Asd.mk ((I_w0.out.below (Below.refl _ _)).far hF (by omega))
  replace I_i0 := Asd.mk ((I_i0.out.below (Below.refl _ _)).far hF (by omega))
  replace I_i1 := Asd.mk ((I_i1.out.below (Below.refl _ _)).far hF (by omega))
  replace I_g0 := Asd.mk ((I_g0.out.below (Below.refl _ _)).far hF (by omega))
  clear hF hb
  have yx_0 : eqB x0 x0 = true := eqB_yes rfl
  have hkeep : ∀ W W', Below W.heap.size W W' → (Below w7.heap.size w7 W ∧ W.cell? ⟨w.heap.size, 0, none⟩ = some (.slice A0_0 x0.Nodes.length C0_0) ∧ W.cell? ⟨w4.heap.size, 0, none⟩ = some (.slice Ai0_0 x0.Nodes.length Ci0_0)) → (Below w7.heap.size w7 W' ∧ W'.cell? ⟨w.heap.size, 0, none⟩ = some (.slice A0_0 x0.Nodes.length C0_0) ∧ W'.cell? ⟨w4.heap.size, 0, none⟩ = some (.slice Ai0_0 x0.Nodes.length Ci0_0)) := by
    rintro W W' hb ⟨q_0, q_1, q_2⟩
    exact ⟨below_st q_0 hb, cell_below hb q_1, cell_below hb q_2⟩
  replace hkeep := Asd.mk hkeep
  have hbs : Below w7.heap.size w7 w7.drew := (Below.refl _ _).drew
  go_wp2
  go_region_held3 (fun W => Below w7.heap.size w7 W ∧ W.cell? ⟨w.heap.size, 0, none⟩ = some (.slice A0_0 x0.Nodes.length C0_0) ∧ W.cell? ⟨w4.heap.size, 0, none⟩ = some (.slice Ai0_0 x0.Nodes.length Ci0_0)) (go_keep)
    (first | (go_at_call 18; refine (toWeb_calls x0 _ (H0.out.below (below_st HB_7.out (by assumption))) (by omega)).mono ?_; rintro e W6 ⟨us, rfl, ⟨F_, o_, n_, l_⟩, hb⟩; obtain ⟨v_0, G_0, rfl, p_0, rfl⟩ := Web.oopen o_; obtain ⟨D_0, d_0, rfl, _, _⟩ := own_slice p_0; have r6 := Asd.mk o_.rep; obtain ⟨s_0, s_1, s_2⟩ := hkeep.out _ _ hb ⟨by assumption, by first | assumption | exact c0_0, by first | assumption | exact c2_0⟩; clear hb o_ l_ p_0) | (go_at_call 21; refine (eqWeb_calls x0 x0 _ (I_i0.out.reps.below (by assumption)) r6.out).mono ?_; rintro e w8 ⟨rfl, hb⟩; obtain ⟨s_0, s_1, s_2⟩ := hkeep.out _ _ hb ⟨by assumption, by first | assumption | exact c0_0, by first | assumption | exact c2_0⟩; clear hb))
  have hF : Far 0 0 w7 w8 := Far.of_below s_0
  clear hkeep s_0 s_1 s_2 r6 hbs
  have zs8 : w7.heap.size ≤ w8.heap.size := by have := hF.size; (try simp at this); omega
  replace c0_0 : w8.cell? ⟨w.heap.size, 0, none⟩ = some (.slice A0_0 x0.Nodes.length C0_0) := by rw [hF.cell (by first | (simp; done) | (simp; omega) | omega) (by omega)]; first | exact c0_0 | go_simp
  replace c1_0 : w8.cell? ⟨w.heap.size + 1, 0, none⟩ = some (.slice A1_0 x1.Roots.length C1_0) := by rw [hF.cell (by first | (simp; done) | (simp; omega) | omega) (by omega)]; first | exact c1_0 | go_simp
  replace c1_1 : w8.cell? ⟨w.heap.size + 1, 1, none⟩ = some (.slice A1_1 x1.Runs.length C1_1) := by rw [hF.cell (by first | (simp; done) | (simp; omega) | omega) (by omega)]; first | exact c1_1 | go_simp
  replace c2_0 : w8.cell? ⟨w4.heap.size, 0, none⟩ = some (.slice Ai0_0 x0.Nodes.length Ci0_0) := by rw [hF.cell (by first | (simp; done) | (simp; omega) | omega) (by omega)]; first | exact c2_0 | go_simp
  replace c3_0 : w8.cell? ⟨w5.heap.size, 0, none⟩ = some (.slice Ai1_0 x1.Roots.length Ci1_0) := by rw [hF.cell (by first | (simp; done) | (simp; omega) | omega) (by omega)]; first | exact c3_0 | go_simp
  replace c3_1 : w8.cell? ⟨w5.heap.size, 1, none⟩ = some (.slice Ai1_1 x1.Runs.length Ci1_1) := by rw [hF.cell (by first | (simp; done) | (simp; omega) | omega) (by omega)]; first | exact c3_1 | go_simp
  replace z0 : w.heap.size < w8.heap.size := by omega
  replace z1 : w.heap.size + 1 < w8.heap.size := by omega
  replace z2 : w4.heap.size < w8.heap.size := by omega
  replace z3 : w5.heap.size < w8.heap.size := by omega
  have HB_8 := Asd.mk (Far.trans3 (HB_7.out) hF (by omega))
  replace I_w0 := Asd.mk ((I_w0.out.below (Below.refl _ _)).far hF (by omega))
  replace I_i0 := Asd.mk ((I_i0.out.below (Below.refl _ _)).far hF (by omega))
  replace I_i1 := Asd.mk ((I_i1.out.below (Below.refl _ _)).far hF (by omega))
  replace I_g0 := Asd.mk ((I_g0.out.below (Below.refl _ _)).far hF (by omega))
  clear hF
  have yx_1 : eqB x1 x1 = true := eqB_yes rfl
  have hkeep : ∀ W W', Below W.heap.size W W' → (Below w8.heap.size w8 W ∧ W.cell? ⟨w.heap.size + 1, 0, none⟩ = some (.slice A1_0 x1.Roots.length C1_0) ∧ W.cell? ⟨w.heap.size + 1, 1, none⟩ = some (.slice A1_1 x1.Runs.length C1_1) ∧ W.cell? ⟨w5.heap.size, 0, none⟩ = some (.slice Ai1_0 x1.Roots.length Ci1_0) ∧ W.cell? ⟨w5.heap.size, 1, none⟩ = some (.slice Ai1_1 x1.Runs.length Ci1_1)) → (Below w8.heap.size w8 W' ∧ W'.cell? ⟨w.heap.size + 1, 0, none⟩ = some (.slice A1_0 x1.Roots.length C1_0) ∧ W'.cell? ⟨w.heap.size + 1, 1, none⟩ = some (.slice A1_1 x1.Runs.length C1_1) ∧ W'.cell? ⟨w5.heap.size, 0, none⟩ = some (.slice Ai1_0 x1.Roots.length Ci1_0) ∧ W'.cell? ⟨w5.heap.size, 1, none⟩ = some (.slice Ai1_1 x1.Runs.length Ci1_1)) := by
    rintro W W' hb ⟨q_0, q_1, q_2, q_3, q_4⟩
    exact ⟨below_st q_0 hb, cell_below hb q_1, cell_below hb q_2, cell_below hb q_3, cell_below hb q_4⟩
  replace hkeep := Asd.mk hkeep
  have hbs : Below w8.heap.size w8 w8.drew := (Below.refl _ _).drew
  go_wp2
  go_region_held3 (fun W => Below w8.heap.size w8 W ∧ W.cell? ⟨w.heap.size + 1, 0, none⟩ = some (.slice A1_0 x1.Roots.length C1_0) ∧ W.cell? ⟨w.heap.size + 1, 1, none⟩ = some (.slice A1_1 x1.Runs.length C1_1) ∧ W.cell? ⟨w5.heap.size, 0, none⟩ = some (.slice Ai1_0 x1.Roots.length Ci1_0) ∧ W.cell? ⟨w5.heap.size, 1, none⟩ = some (.slice Ai1_1 x1.Runs.length Ci1_1)) (go_keep)
    (first | (go_at_call 19; refine (toState_calls x1 _ (H1.out.below (below_st HB_8.out (by assumption))) (by omega)).mono ?_; rintro e W6 ⟨us, rfl, ⟨F_, o_, n_, l_⟩, hb⟩; obtain ⟨v_0, G_0, v_1, G_1, rfl, p_0, p_1, rfl⟩ := State.oopen o_; obtain ⟨D_0, d_0, rfl, _, _⟩ := own_slice p_0; obtain ⟨D_1, d_1, rfl, _, _⟩ := own_slice p_1; have r6 := Asd.mk o_.rep; obtain ⟨s_0, s_1, s_2, s_3, s_4⟩ := hkeep.out _ _ hb ⟨by assumption, by first | assumption | exact c1_0, by first | assumption | exact c1_1, by first | assumption | exact c3_0, by first | assumption | exact c3_1⟩; clear hb o_ l_ p_0 p_1) | (go_at_call 22; refine (eqState_calls x1 x1 _ (I_i1.out.reps.below (by assumption)) r6.out).mono ?_; rintro e w9 ⟨rfl, hb⟩; obtain ⟨s_0, s_1, s_2, s_3, s_4⟩ := hkeep.out _ _ hb ⟨by assumption, by first | assumption | exact c1_0, by first | assumption | exact c1_1, by first | assumption | exact c3_0, by first | assumption | exact c3_1⟩; clear hb))
  have hF : Far 0 0 w8 w9 := Far.of_below s_0
  clear hkeep s_0 s_1 s_2 s_3 s_4 r6 hbs
  have zs9 : w8.heap.size ≤ w9.heap.size := by have := hF.size; (try simp at this); omega
  replace c0_0 : w9.cell? ⟨w.heap.size, 0, none⟩ = some (.slice A0_0 x0.Nodes.length C0_0) := by rw [hF.cell (by first | (simp; done) | (simp; omega) | omega) (by omega)]; first | exact c0_0 | go_simp
  replace c1_0 : w9.cell? ⟨w.heap.size + 1, 0, none⟩ = some (.slice A1_0 x1.Roots.length C1_0) := by rw [hF.cell (by first | (simp; done) | (simp; omega) | omega) (by omega)]; first | exact c1_0 | go_simp
  replace c1_1 : w9.cell? ⟨w.heap.size + 1, 1, none⟩ = some (.slice A1_1 x1.Runs.length C1_1) := by rw [hF.cell (by first | (simp; done) | (simp; omega) | omega) (by omega)]; first | exact c1_1 | go_simp
  replace c2_0 : w9.cell? ⟨w4.heap.size, 0, none⟩ = some (.slice Ai0_0 x0.Nodes.length Ci0_0) := by rw [hF.cell (by first | (simp; done) | (simp; omega) | omega) (by omega)]; first | exact c2_0 | go_simp
  replace c3_0 : w9.cell? ⟨w5.heap.size, 0, none⟩ = some (.slice Ai1_0 x1.Roots.length Ci1_0) := by rw [hF.cell (by first | (simp; done) | (simp; omega) | omega) (by omega)]; first | exact c3_0 | go_simp
  replace c3_1 : w9.cell? ⟨w5.heap.size, 1, none⟩ = some (.slice Ai1_1 x1.Runs.length Ci1_1) := by rw [hF.cell (by first | (simp; done) | (simp; omega) | omega) (by omega)]; first | exact c3_1 | go_simp
  replace z0 : w.heap.size < w9.heap.size := by omega
  replace z1 : w.heap.size + 1 < w9.heap.size := by omega
  replace z2 : w4.heap.size < w9.heap.size := by omega
  replace z3 : w5.heap.size < w9.heap.size := by omega
  have HB_9 := Asd.mk (Far.trans3 (HB_8.out) hF (by omega))
  replace I_w0 := Asd.mk ((I_w0.out.below (Below.refl _ _)).far hF (by omega))
  replace I_i0 := Asd.mk ((I_i0.out.below (Below.refl _ _)).far hF (by omega))
  replace I_i1 := Asd.mk ((I_i1.out.below (Below.refl _ _)).far hF (by omega))
  replace I_g0 := Asd.mk ((I_g0.out.below (Below.refl _ _)).far hF (by omega))
  clear hF
  go_wp2_with fail
  refine (markWeb_calls (x0) _ _ (1) _ _ (by first | rfl | omega) (I_i0.out.below (Below.refl _ _)) (by omega) (by have := ka0.out; omega)).mono ?_
  rintro e w10 ⟨he, hI, hF⟩
  rw [ka0.out] at he
  subst he
  replace hI := Asd.mk hI
  have zs10 : w9.heap.size ≤ w10.heap.size := by have := hF.size; (try simp at this); omega
  replace c0_0 : w10.cell? ⟨w.heap.size, 0, none⟩ = some (.slice A0_0 x0.Nodes.length C0_0) := by rw [hF.cell (by first | (simp; done) | (simp; omega) | omega) (by omega)]; first | exact c0_0 | go_simp
  replace c1_0 : w10.cell? ⟨w.heap.size + 1, 0, none⟩ = some (.slice A1_0 x1.Roots.length C1_0) := by rw [hF.cell (by first | (simp; done) | (simp; omega) | omega) (by omega)]; first | exact c1_0 | go_simp
  replace c1_1 : w10.cell? ⟨w.heap.size + 1, 1, none⟩ = some (.slice A1_1 x1.Runs.length C1_1) := by rw [hF.cell (by first | (simp; done) | (simp; omega) | omega) (by omega)]; first | exact c1_1 | go_simp
  replace c2_0 : w10.cell? ⟨w4.heap.size, 0, none⟩ = some (.slice Ai0_0 x0.Nodes.length Ci0_0) := by rw [hF.cell (by first | (simp; done) | (simp; omega) | omega) (by omega)]; first | exact c2_0 | go_simp
  replace c3_0 : w10.cell? ⟨w5.heap.size, 0, none⟩ = some (.slice Ai1_0 x1.Roots.length Ci1_0) := by rw [hF.cell (by first | (simp; done) | (simp; omega) | omega) (by omega)]; first | exact c3_0 | go_simp
  replace c3_1 : w10.cell? ⟨w5.heap.size, 1, none⟩ = some (.slice Ai1_1 x1.Runs.length Ci1_1) := by rw [hF.cell (by first | (simp; done) | (simp; omega) | omega) (by omega)]; first | exact c3_1 | go_simp
  replace z0 : w.heap.size < w10.heap.size := by omega
  replace z1 : w.heap.size + 1 < w10.heap.size := by omega
  replace z2 : w4.heap.size < w10.heap.size := by omega
  replace z3 : w5.heap.size < w10.heap.size := by omega
  have HB_10 := Asd.mk (Far.trans3 (HB_9.out) hF (by omega))
  replace I_w0 := Asd.mk ((I_w0.out.below (Below.refl _ _)).far hF (by omega))
  replace I_i1 := Asd.mk ((I_i1.out.below (Below.refl _ _)).far hF (by omega))
  replace I_g0 := Asd.mk ((I_g0.out.below (Below.refl _ _)).far hF (by omega))
  clear hF
  clear I_i0 hI
  go_wp2_with fail
  refine (markState_calls (x1) _ _ (KA0) _ _ (by first | rfl | omega) (I_i1.out.below (Below.refl _ _)) (by omega) (by have := ka1.out; omega)).mono ?_
  rintro e w11 ⟨he, hI, hF⟩
  rw [ka1.out] at he
  subst he
  replace hI := Asd.mk hI
  have zs11 : w10.heap.size ≤ w11.heap.size := by have := hF.size; (try simp at this); omega
  replace c0_0 : w11.cell? ⟨w.heap.size, 0, none⟩ = some (.slice A0_0 x0.Nodes.length C0_0) := by rw [hF.cell (by first | (simp; done) | (simp; omega) | omega) (by omega)]; first | exact c0_0 | go_simp
  replace c1_0 : w11.cell? ⟨w.heap.size + 1, 0, none⟩ = some (.slice A1_0 x1.Roots.length C1_0) := by rw [hF.cell (by first | (simp; done) | (simp; omega) | omega) (by omega)]; first | exact c1_0 | go_simp
  replace c1_1 : w11.cell? ⟨w.heap.size + 1, 1, none⟩ = some (.slice A1_1 x1.Runs.length C1_1) := by rw [hF.cell (by first | (simp; done) | (simp; omega) | omega) (by omega)]; first | exact c1_1 | go_simp
  replace c2_0 : w11.cell? ⟨w4.heap.size, 0, none⟩ = some (.slice Ai0_0 x0.Nodes.length Ci0_0) := by rw [hF.cell (by first | (simp; done) | (simp; omega) | omega) (by omega)]; first | exact c2_0 | go_simp
  replace c3_0 : w11.cell? ⟨w5.heap.size, 0, none⟩ = some (.slice Ai1_0 x1.Roots.length Ci1_0) := by rw [hF.cell (by first | (simp; done) | (simp; omega) | omega) (by omega)]; first | exact c3_0 | go_simp
  replace c3_1 : w11.cell? ⟨w5.heap.size, 1, none⟩ = some (.slice Ai1_1 x1.Runs.length Ci1_1) := by rw [hF.cell (by first | (simp; done) | (simp; omega) | omega) (by omega)]; first | exact c3_1 | go_simp
  replace z0 : w.heap.size < w11.heap.size := by omega
  replace z1 : w.heap.size + 1 < w11.heap.size := by omega
  replace z2 : w4.heap.size < w11.heap.size := by omega
  replace z3 : w5.heap.size < w11.heap.size := by omega
  have HB_11 := Asd.mk (Far.trans3 (HB_10.out) hF (by omega))
  replace I_w0 := Asd.mk ((I_w0.out.below (Below.refl _ _)).far hF (by omega))
  replace I_g0 := Asd.mk ((I_g0.out.below (Below.refl _ _)).far hF (by omega))
  clear hF
  clear I_i1 hI
  go_wp2_with fail
  refine (eqStringS_calls (g) (g) _ _ _ (reps_one (I_g0.out.reps.below (Below.refl _ _))) (reps_one (I_w0.out.reps.below (Below.refl _ _)))).mono ?_
  rintro e w12 ⟨rfl, hb⟩
  have hF := Far.of_below hb
  have zs12 : w11.heap.size ≤ w12.heap.size := by have := hF.size; (try simp at this); omega
  replace c0_0 : w12.cell? ⟨w.heap.size, 0, none⟩ = some (.slice A0_0 x0.Nodes.length C0_0) := by rw [hF.cell (by first | (simp; done) | (simp; omega) | omega) (by omega)]; first | exact c0_0 | go_simp
  replace c1_0 : w12.cell? ⟨w.heap.size + 1, 0, none⟩ = some (.slice A1_0 x1.Roots.length C1_0) := by rw [hF.cell (by first | (simp; done) | (simp; omega) | omega) (by omega)]; first | exact c1_0 | go_simp
  replace c1_1 : w12.cell? ⟨w.heap.size + 1, 1, none⟩ = some (.slice A1_1 x1.Runs.length C1_1) := by rw [hF.cell (by first | (simp; done) | (simp; omega) | omega) (by omega)]; first | exact c1_1 | go_simp
  replace c2_0 : w12.cell? ⟨w4.heap.size, 0, none⟩ = some (.slice Ai0_0 x0.Nodes.length Ci0_0) := by rw [hF.cell (by first | (simp; done) | (simp; omega) | omega) (by omega)]; first | exact c2_0 | go_simp
  replace c3_0 : w12.cell? ⟨w5.heap.size, 0, none⟩ = some (.slice Ai1_0 x1.Roots.length Ci1_0) := by rw [hF.cell (by first | (simp; done) | (simp; omega) | omega) (by omega)]; first | exact c3_0 | go_simp
  replace c3_1 : w12.cell? ⟨w5.heap.size, 1, none⟩ = some (.slice Ai1_1 x1.Runs.length Ci1_1) := by rw [hF.cell (by first | (simp; done) | (simp; omega) | omega) (by omega)]; first | exact c3_1 | go_simp
  replace z0 : w.heap.size < w12.heap.size := by omega
  replace z1 : w.heap.size + 1 < w12.heap.size := by omega
  replace z2 : w4.heap.size < w12.heap.size := by omega
  replace z3 : w5.heap.size < w12.heap.size := by omega
  have HB_12 := Asd.mk (Far.trans3 (HB_11.out) hF (by omega))
  replace I_w0 := Asd.mk ((I_w0.out.below (Below.refl _ _)).far hF (by omega))
  replace I_g0 := Asd.mk ((I_g0.out.below (Below.refl _ _)).far hF (by omega))
  clear hF hb
  go_wp2_with fail
  refine (markStringS_iv (g) _ _ (1) _ _ _ (by first | rfl | omega) (I_g0.out.below (Below.refl _ _)) (by omega) (by have := kg0.out; omega)).mono ?_
  rintro e w13 ⟨he, hI, hF⟩
  rw [kg0.out] at he
  subst he
  replace hI := Asd.mk hI
  have zs13 : w12.heap.size ≤ w13.heap.size := by have := hF.size; (try simp at this); omega
  replace c0_0 : w13.cell? ⟨w.heap.size, 0, none⟩ = some (.slice A0_0 x0.Nodes.length C0_0) := by rw [hF.cell (by first | (simp; done) | (simp; omega) | omega) (by omega)]; first | exact c0_0 | go_simp
  replace c1_0 : w13.cell? ⟨w.heap.size + 1, 0, none⟩ = some (.slice A1_0 x1.Roots.length C1_0) := by rw [hF.cell (by first | (simp; done) | (simp; omega) | omega) (by omega)]; first | exact c1_0 | go_simp
  replace c1_1 : w13.cell? ⟨w.heap.size + 1, 1, none⟩ = some (.slice A1_1 x1.Runs.length C1_1) := by rw [hF.cell (by first | (simp; done) | (simp; omega) | omega) (by omega)]; first | exact c1_1 | go_simp
  replace c2_0 : w13.cell? ⟨w4.heap.size, 0, none⟩ = some (.slice Ai0_0 x0.Nodes.length Ci0_0) := by rw [hF.cell (by first | (simp; done) | (simp; omega) | omega) (by omega)]; first | exact c2_0 | go_simp
  replace c3_0 : w13.cell? ⟨w5.heap.size, 0, none⟩ = some (.slice Ai1_0 x1.Roots.length Ci1_0) := by rw [hF.cell (by first | (simp; done) | (simp; omega) | omega) (by omega)]; first | exact c3_0 | go_simp
  replace c3_1 : w13.cell? ⟨w5.heap.size, 1, none⟩ = some (.slice Ai1_1 x1.Runs.length Ci1_1) := by rw [hF.cell (by first | (simp; done) | (simp; omega) | omega) (by omega)]; first | exact c3_1 | go_simp
  replace z0 : w.heap.size < w13.heap.size := by omega
  replace z1 : w.heap.size + 1 < w13.heap.size := by omega
  replace z2 : w4.heap.size < w13.heap.size := by omega
  replace z3 : w5.heap.size < w13.heap.size := by omega
  have HB_13 := Asd.mk (Far.trans3 (HB_12.out) hF (by omega))
  replace I_w0 := Asd.mk ((I_w0.out.below (Below.refl _ _)).far hF (by omega))
  clear hF
  clear I_g0
  have I_m0 := hI
  clear hI
  go_wp2_with fail
  refine (heldStringS_iv (g) _ _ (1) _ _ _ (by first | rfl | omega) (I_m0.out.below (Below.refl _ _)) (by omega) (by have := kg0.out; omega)).mono ?_
  rintro e w14 ⟨he, hb⟩
  have hF := Far.of_below hb
  rw [kg0.out] at he
  subst he
  have zs14 : w13.heap.size ≤ w14.heap.size := by have := hF.size; (try simp at this); omega
  replace c0_0 : w14.cell? ⟨w.heap.size, 0, none⟩ = some (.slice A0_0 x0.Nodes.length C0_0) := by rw [hF.cell (by first | (simp; done) | (simp; omega) | omega) (by omega)]; first | exact c0_0 | go_simp
  replace c1_0 : w14.cell? ⟨w.heap.size + 1, 0, none⟩ = some (.slice A1_0 x1.Roots.length C1_0) := by rw [hF.cell (by first | (simp; done) | (simp; omega) | omega) (by omega)]; first | exact c1_0 | go_simp
  replace c1_1 : w14.cell? ⟨w.heap.size + 1, 1, none⟩ = some (.slice A1_1 x1.Runs.length C1_1) := by rw [hF.cell (by first | (simp; done) | (simp; omega) | omega) (by omega)]; first | exact c1_1 | go_simp
  replace c2_0 : w14.cell? ⟨w4.heap.size, 0, none⟩ = some (.slice Ai0_0 x0.Nodes.length Ci0_0) := by rw [hF.cell (by first | (simp; done) | (simp; omega) | omega) (by omega)]; first | exact c2_0 | go_simp
  replace c3_0 : w14.cell? ⟨w5.heap.size, 0, none⟩ = some (.slice Ai1_0 x1.Roots.length Ci1_0) := by rw [hF.cell (by first | (simp; done) | (simp; omega) | omega) (by omega)]; first | exact c3_0 | go_simp
  replace c3_1 : w14.cell? ⟨w5.heap.size, 1, none⟩ = some (.slice Ai1_1 x1.Runs.length Ci1_1) := by rw [hF.cell (by first | (simp; done) | (simp; omega) | omega) (by omega)]; first | exact c3_1 | go_simp
  replace z0 : w.heap.size < w14.heap.size := by omega
  replace z1 : w.heap.size + 1 < w14.heap.size := by omega
  replace z2 : w4.heap.size < w14.heap.size := by omega
  replace z3 : w5.heap.size < w14.heap.size := by omega
  have HB_14 := Asd.mk (Far.trans3 (HB_13.out) hF (by omega))
  replace I_w0 := Asd.mk ((I_w0.out.below (Below.refl _ _)).far hF (by omega))
  replace I_m0 := Asd.mk ((I_m0.out.below (Below.refl _ _)).far hF (by omega))
  clear hF hb
  have hkeep := Asd.mk (show ∀ W, Below w14.heap.size w14 W → (Below w14.heap.size w14 W ∧ W.cell? ⟨w.heap.size, 0, none⟩ = some (.slice A0_0 x0.Nodes.length C0_0) ∧ W.cell? ⟨w.heap.size + 1, 0, none⟩ = some (.slice A1_0 x1.Roots.length C1_0) ∧ W.cell? ⟨w.heap.size + 1, 1, none⟩ = some (.slice A1_1 x1.Runs.length C1_1)) from fun W hb => ⟨hb, cell_below hb c0_0, cell_below hb c1_0, cell_below hb c1_1⟩)
  have s_0 : Below w14.heap.size w14 w14.drew := (Below.refl _ _).drew
  go_wp2
  go_region_held3 (fun W => Below w14.heap.size w14 W ∧ W.cell? ⟨w.heap.size, 0, none⟩ = some (.slice A0_0 x0.Nodes.length C0_0) ∧ W.cell? ⟨w.heap.size + 1, 0, none⟩ = some (.slice A1_0 x1.Roots.length C1_0) ∧ W.cell? ⟨w.heap.size + 1, 1, none⟩ = some (.slice A1_1 x1.Runs.length C1_1)) ((refine hkeep.out _ ?_; (repeat (first | (with_reducible exact Below.refl _ _) | (with_reducible exact s_0) | (with_reducible refine below_al ?_ _) | (with_reducible refine below_dr ?_ _) | (with_reducible refine below_d1 ?_) | ((with_reducible refine Below.setCell ?_ ?_ _); rotate_left; (next => first | (simp; done) | (simp; omega) | omega))))))
    (first | (go_at_call 18; refine (toWeb_calls x0 _ (H0.out.below (below_st (HB_14.out) (show Below w14.heap.size w14 _ from by repeat (first | (with_reducible exact Below.refl _ _) | (with_reducible exact s_0) | (with_reducible refine below_al ?_ _) | (with_reducible refine below_dr ?_ _) | (with_reducible refine below_d1 ?_) | ((with_reducible refine Below.setCell ?_ ?_ _); rotate_left; (next => first | (simp; done) | (simp; omega) | omega)))))) (by omega)).mono ?_; rintro e W0 ⟨us, rfl, ⟨F_, o_, n_, l_⟩, hb⟩; obtain ⟨v_0, G_0, rfl, p_0, rfl⟩ := Web.oopen o_; obtain ⟨D0_0, d0_0, rfl, _, _⟩ := own_slice p_0; have r_s0 := Asd.mk o_.rep; obtain ⟨s_0, s_1, s_2, s_3⟩ := hkeep.out _ (below_st (show Below w14.heap.size w14 _ from by repeat (first | (with_reducible exact Below.refl _ _) | (with_reducible exact s_0) | (with_reducible refine below_al ?_ _) | (with_reducible refine below_dr ?_ _) | (with_reducible refine below_d1 ?_) | ((with_reducible refine Below.setCell ?_ ?_ _); rotate_left; (next => first | (simp; done) | (simp; omega) | omega)))) hb); clear hb o_ l_ n_ p_0) | (go_at_call 19; refine (toState_calls x1 _ (H1.out.below (below_st (HB_14.out) (show Below w14.heap.size w14 _ from by repeat (first | (with_reducible exact Below.refl _ _) | (with_reducible exact s_0) | (with_reducible refine below_al ?_ _) | (with_reducible refine below_dr ?_ _) | (with_reducible refine below_d1 ?_) | ((with_reducible refine Below.setCell ?_ ?_ _); rotate_left; (next => first | (simp; done) | (simp; omega) | omega)))))) (by omega)).mono ?_; rintro e W1 ⟨us, rfl, ⟨F_, o_, n_, l_⟩, hb⟩; obtain ⟨v_0, G_0, v_1, G_1, rfl, p_0, p_1, rfl⟩ := State.oopen o_; obtain ⟨D1_0, d1_0, rfl, _, _⟩ := own_slice p_0; obtain ⟨D1_1, d1_1, rfl, _, _⟩ := own_slice p_1; have r_s1 := Asd.mk o_.rep; replace r_s0 := Asd.mk (r_s0.out.below (below_st (by repeat (first | (with_reducible exact Below.refl _ _) | (with_reducible exact Below.refl _ _) | (with_reducible refine below_al ?_ _) | (with_reducible refine below_dr ?_ _) | (with_reducible refine below_d1 ?_) | ((with_reducible refine Below.setCell ?_ ?_ _); rotate_left; (next => first | (simp; done) | (simp; omega) | omega)))) hb)); obtain ⟨s_0, s_1, s_2, s_3⟩ := hkeep.out _ (below_st (show Below w14.heap.size w14 _ from by repeat (first | (with_reducible exact Below.refl _ _) | (with_reducible exact s_0) | (with_reducible refine below_al ?_ _) | (with_reducible refine below_dr ?_ _) | (with_reducible refine below_d1 ?_) | ((with_reducible refine Below.setCell ?_ ?_ _); rotate_left; (next => first | (simp; done) | (simp; omega) | omega)))) hb); clear hb o_ l_ n_ p_0 p_1) | (go_at_call 46; refine (Why_calls x0 x1 x2 _ (r_s0.out.below (by repeat (first | (with_reducible exact Below.refl _ _) | (with_reducible exact Below.refl _ _) | (with_reducible refine below_al ?_ _) | (with_reducible refine below_dr ?_ _) | (with_reducible refine below_d1 ?_) | ((with_reducible refine Below.setCell ?_ ?_ _); rotate_left; (next => first | (simp; done) | (simp; omega) | omega))))) (r_s1.out.below (by repeat (first | (with_reducible exact Below.refl _ _) | (with_reducible exact Below.refl _ _) | (with_reducible refine below_al ?_ _) | (with_reducible refine below_dr ?_ _) | (with_reducible refine below_d1 ?_) | ((with_reducible refine Below.setCell ?_ ?_ _); rotate_left; (next => first | (simp; done) | (simp; omega) | omega))))) (Web.zsm hz0.out) (Nat.lt_of_lt_of_le hg (below_st (HB_14.out) (show Below w14.heap.size w14 _ from by repeat (first | (with_reducible exact Below.refl _ _) | (with_reducible exact s_0) | (with_reducible refine below_al ?_ _) | (with_reducible refine below_dr ?_ _) | (with_reducible refine below_d1 ?_) | ((with_reducible refine Below.setCell ?_ ?_ _); rotate_left; (next => first | (simp; done) | (simp; omega) | omega))))).size) (cell_below (below_st (HB_14.out) (show Below w14.heap.size w14 _ from by repeat (first | (with_reducible exact Below.refl _ _) | (with_reducible exact s_0) | (with_reducible refine below_al ?_ _) | (with_reducible refine below_dr ?_ _) | (with_reducible refine below_d1 ?_) | ((with_reducible refine Below.setCell ?_ ?_ _); rotate_left; (next => first | (simp; done) | (simp; omega) | omega))))) ht)).mono ?_; rw [gx]; rintro e w15 ⟨v_, rfl, hM, hb⟩; have I_k0 : Asd (Iv _ w15.heap.size w15 ([strsT 9 g]) [v_]) := Asd.mk ((Iv.of_lie hM.lie).mono (Nat.le_refl _) (Nat.le_refl _)); obtain ⟨F_, o_, _, _⟩ := hM; obtain ⟨Ak0, Ck0, rfl, _, _⟩ := own_slice o_; clear o_; obtain ⟨s_0, s_1, s_2, s_3⟩ := hkeep.out _ (below_st (show Below w14.heap.size w14 _ from by repeat (first | (with_reducible exact Below.refl _ _) | (with_reducible exact s_0) | (with_reducible refine below_al ?_ _) | (with_reducible refine below_dr ?_ _) | (with_reducible refine below_d1 ?_) | ((with_reducible refine Below.setCell ?_ ?_ _); rotate_left; (next => first | (simp; done) | (simp; omega) | omega)))) hb); clear hb))
  have hF : Far 0 0 w14 w15 := Far.of_below s_0
  clear hkeep s_0 s_1 s_2 s_3 r_s0 r_s1
  have zs15 : w14.heap.size ≤ w15.heap.size := by have := hF.size; (try simp at this); omega
  replace c0_0 : w15.cell? ⟨w.heap.size, 0, none⟩ = some (.slice A0_0 x0.Nodes.length C0_0) := by rw [hF.cell (by first | (simp; done) | (simp; omega) | omega) (by omega)]; first | exact c0_0 | go_simp
  replace c1_0 : w15.cell? ⟨w.heap.size + 1, 0, none⟩ = some (.slice A1_0 x1.Roots.length C1_0) := by rw [hF.cell (by first | (simp; done) | (simp; omega) | omega) (by omega)]; first | exact c1_0 | go_simp
  replace c1_1 : w15.cell? ⟨w.heap.size + 1, 1, none⟩ = some (.slice A1_1 x1.Runs.length C1_1) := by rw [hF.cell (by first | (simp; done) | (simp; omega) | omega) (by omega)]; first | exact c1_1 | go_simp
  replace c2_0 : w15.cell? ⟨w4.heap.size, 0, none⟩ = some (.slice Ai0_0 x0.Nodes.length Ci0_0) := by rw [hF.cell (by first | (simp; done) | (simp; omega) | omega) (by omega)]; first | exact c2_0 | go_simp
  replace c3_0 : w15.cell? ⟨w5.heap.size, 0, none⟩ = some (.slice Ai1_0 x1.Roots.length Ci1_0) := by rw [hF.cell (by first | (simp; done) | (simp; omega) | omega) (by omega)]; first | exact c3_0 | go_simp
  replace c3_1 : w15.cell? ⟨w5.heap.size, 1, none⟩ = some (.slice Ai1_1 x1.Runs.length Ci1_1) := by rw [hF.cell (by first | (simp; done) | (simp; omega) | omega) (by omega)]; first | exact c3_1 | go_simp
  replace z0 : w.heap.size < w15.heap.size := by omega
  replace z1 : w.heap.size + 1 < w15.heap.size := by omega
  replace z2 : w4.heap.size < w15.heap.size := by omega
  replace z3 : w5.heap.size < w15.heap.size := by omega
  have HB_15 := Asd.mk (Far.trans3 (HB_14.out) hF (by omega))
  replace I_w0 := Asd.mk ((I_w0.out.below (Below.refl _ _)).far hF (by omega))
  replace I_m0 := Asd.mk ((I_m0.out.below (Below.refl _ _)).far hF (by omega))
  clear hF
  go_wp2_with fail
  refine (eqStringS_calls (g) (g) _ _ _ (reps_one (I_k0.out.reps.below (Below.refl _ _))) (reps_one (I_w0.out.reps.below (Below.refl _ _)))).mono ?_
  rintro e w16 ⟨rfl, hb⟩
  have hF := Far.of_below hb
  have zs16 : w15.heap.size ≤ w16.heap.size := by have := hF.size; (try simp at this); omega
  replace c0_0 : w16.cell? ⟨w.heap.size, 0, none⟩ = some (.slice A0_0 x0.Nodes.length C0_0) := by rw [hF.cell (by first | (simp; done) | (simp; omega) | omega) (by omega)]; first | exact c0_0 | go_simp
  replace c1_0 : w16.cell? ⟨w.heap.size + 1, 0, none⟩ = some (.slice A1_0 x1.Roots.length C1_0) := by rw [hF.cell (by first | (simp; done) | (simp; omega) | omega) (by omega)]; first | exact c1_0 | go_simp
  replace c1_1 : w16.cell? ⟨w.heap.size + 1, 1, none⟩ = some (.slice A1_1 x1.Runs.length C1_1) := by rw [hF.cell (by first | (simp; done) | (simp; omega) | omega) (by omega)]; first | exact c1_1 | go_simp
  replace c2_0 : w16.cell? ⟨w4.heap.size, 0, none⟩ = some (.slice Ai0_0 x0.Nodes.length Ci0_0) := by rw [hF.cell (by first | (simp; done) | (simp; omega) | omega) (by omega)]; first | exact c2_0 | go_simp
  replace c3_0 : w16.cell? ⟨w5.heap.size, 0, none⟩ = some (.slice Ai1_0 x1.Roots.length Ci1_0) := by rw [hF.cell (by first | (simp; done) | (simp; omega) | omega) (by omega)]; first | exact c3_0 | go_simp
  replace c3_1 : w16.cell? ⟨w5.heap.size, 1, none⟩ = some (.slice Ai1_1 x1.Runs.length Ci1_1) := by rw [hF.cell (by first | (simp; done) | (simp; omega) | omega) (by omega)]; first | exact c3_1 | go_simp
  replace z0 : w.heap.size < w16.heap.size := by omega
  replace z1 : w.heap.size + 1 < w16.heap.size := by omega
  replace z2 : w4.heap.size < w16.heap.size := by omega
  replace z3 : w5.heap.size < w16.heap.size := by omega
  have HB_16 := Asd.mk (Far.trans3 (HB_15.out) hF (by omega))
  replace I_w0 := Asd.mk ((I_w0.out.below (Below.refl _ _)).far hF (by omega))
  replace I_m0 := Asd.mk ((I_m0.out.below (Below.refl _ _)).far hF (by omega))
  replace I_k0 := Asd.mk ((I_k0.out.below (Below.refl _ _)).far hF (by omega))
  clear hF hb
  go_wp2_with fail
  refine (heldStringS_iv (g) _ _ (1) _ _ _ (by first | rfl | omega) (I_m0.out.below (Below.refl _ _)) (by omega) (by have := kg0.out; omega)).mono ?_
  rintro e w17 ⟨he, hb⟩
  have hF := Far.of_below hb
  rw [kg0.out] at he
  subst he
  have zs17 : w16.heap.size ≤ w17.heap.size := by have := hF.size; (try simp at this); omega
  replace c0_0 : w17.cell? ⟨w.heap.size, 0, none⟩ = some (.slice A0_0 x0.Nodes.length C0_0) := by rw [hF.cell (by first | (simp; done) | (simp; omega) | omega) (by omega)]; first | exact c0_0 | go_simp
  replace c1_0 : w17.cell? ⟨w.heap.size + 1, 0, none⟩ = some (.slice A1_0 x1.Roots.length C1_0) := by rw [hF.cell (by first | (simp; done) | (simp; omega) | omega) (by omega)]; first | exact c1_0 | go_simp
  replace c1_1 : w17.cell? ⟨w.heap.size + 1, 1, none⟩ = some (.slice A1_1 x1.Runs.length C1_1) := by rw [hF.cell (by first | (simp; done) | (simp; omega) | omega) (by omega)]; first | exact c1_1 | go_simp
  replace c2_0 : w17.cell? ⟨w4.heap.size, 0, none⟩ = some (.slice Ai0_0 x0.Nodes.length Ci0_0) := by rw [hF.cell (by first | (simp; done) | (simp; omega) | omega) (by omega)]; first | exact c2_0 | go_simp
  replace c3_0 : w17.cell? ⟨w5.heap.size, 0, none⟩ = some (.slice Ai1_0 x1.Roots.length Ci1_0) := by rw [hF.cell (by first | (simp; done) | (simp; omega) | omega) (by omega)]; first | exact c3_0 | go_simp
  replace c3_1 : w17.cell? ⟨w5.heap.size, 1, none⟩ = some (.slice Ai1_1 x1.Runs.length Ci1_1) := by rw [hF.cell (by first | (simp; done) | (simp; omega) | omega) (by omega)]; first | exact c3_1 | go_simp
  replace z0 : w.heap.size < w17.heap.size := by omega
  replace z1 : w.heap.size + 1 < w17.heap.size := by omega
  replace z2 : w4.heap.size < w17.heap.size := by omega
  replace z3 : w5.heap.size < w17.heap.size := by omega
  have HB_17 := Asd.mk (Far.trans3 (HB_16.out) hF (by omega))
  replace I_w0 := Asd.mk ((I_w0.out.below (Below.refl _ _)).far hF (by omega))
  replace I_m0 := Asd.mk ((I_m0.out.below (Below.refl _ _)).far hF (by omega))
  replace I_k0 := Asd.mk ((I_k0.out.below (Below.refl _ _)).far hF (by omega))
  clear hF hb
  go_wp2
  go_ret
  exact ⟨rfl, HB_17.out⟩
end Go.Proofs.YtkpkfihaihoaeaaGreatDoor.M
end
