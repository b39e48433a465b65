/- The law of Waits, walked. -/
import Derived.Test.YtkpkfihaihoaeaaGreatDoorVsM5
import Derived.Deep.RegionWith
import Derived.Deep.RegionHeld3
section
set_option linter.unusedVariables false
set_option linter.unusedSimpArgs false
namespace Go.Proofs.YtkpkfihaihoaeaaGreatDoor.M
open Go.RowKit
/-- x put into a list in order, once -/
def ins1 : List ByteArray → ByteArray → List ByteArray
  | [], x => [x]
  | y :: l, x => if ltS y x then y :: ins1 l x else if y = x then y :: l else x :: y :: l
theorem mem_ins1 {x z : ByteArray} : ∀ {l : List ByteArray}, z ∈ ins1 l x ↔ z = x ∨ z ∈ l
  | [] => by simp [ins1]
  | y :: l => by
    unfold ins1
    split
    · rw [List.mem_cons, mem_ins1, List.mem_cons]
      constructor
      · rintro (h | h | h) <;> simp [h]
      · rintro (h | h | h) <;> simp [h]
    · split
      · rename_i h1 h2
        subst h2; simp
      · simp
theorem ins1_asc {x : ByteArray} : ∀ {l : List ByteArray}, Asc l → Asc (ins1 l x)
  | [], _ => by simp [ins1, Asc]
  | y :: l, h => by
    obtain ⟨h1, h2⟩ := List.pairwise_cons.1 h
    unfold ins1
    split
    · rename_i hlt
      refine List.pairwise_cons.2 ⟨fun z hz => ?_, ins1_asc h2⟩
      rcases mem_ins1.1 hz with rfl | hz
      · exact hlt
      · exact h1 z hz
    · rename_i hlt
      split
      · exact h
      · rename_i hne
        have hxy : ltS x y = true := by
          cases hh : ltS x y with
          | true => rfl
          | false => exact absurd (ltS_tri hh (by simpa using hlt)).symm hne
        refine List.pairwise_cons.2 ⟨fun z hz => ?_, h⟩
        rcases List.mem_cons.1 hz with rfl | hz
        · exact hxy
        · exact ltS_trans hxy (h1 z hz)
theorem asc_ext : ∀ {a b : List ByteArray}, Asc a → Asc b → (∀ x, x ∈ a ↔ x ∈ b) → a = b
  | [], [], _, _, _ => rfl
  | [], y :: b, _, _, h => by have := (h y).2 (List.mem_cons_self ..); cases this
  | x :: a, [], _, _, h => by have := (h x).1 (List.mem_cons_self ..); cases this
  | x :: a, y :: b, ha, hb, h => by
    obtain ⟨h1, h2⟩ := List.pairwise_cons.1 ha
    obtain ⟨k1, k2⟩ := List.pairwise_cons.1 hb
    have hxy : x = y := by
      rcases List.mem_cons.1 ((h x).1 (List.mem_cons_self ..)) with e | e
      · exact e
      · rcases List.mem_cons.1 ((h y).2 (List.mem_cons_self ..)) with e2 | e2
        · exact e2.symm
        · have a1 := k1 x e
          have a2 := h1 y e2
          rw [ltS_asymm a1] at a2; cases a2
    subst hxy
    congr 1
    refine asc_ext h2 k2 fun z => ?_
    constructor
    · intro hz
      rcases List.mem_cons.1 ((h z).1 (List.mem_cons_of_mem _ hz)) with e | e
      · subst e; have := h1 z hz; rw [ltS_irr] at this; cases this
      · exact e
    · intro hz
      rcases List.mem_cons.1 ((h z).2 (List.mem_cons_of_mem _ hz)) with e | e
      · subst e; have := k1 z hz; rw [ltS_irr] at this; cases this
      · exact e
def insS (l : List ByteArray) : List ByteArray := l.foldl ins1 []
theorem insS_aux : ∀ (l a : List ByteArray), Asc a → Asc (l.foldl ins1 a) ∧ ∀ z, z ∈ l.foldl ins1 a ↔ z ∈ l ∨ z ∈ a
  | [], a, h => ⟨h, fun z => by simp⟩
  | x :: l, a, h => by
    obtain ⟨h1, h2⟩ := insS_aux l (ins1 a x) (ins1_asc h)
    refine ⟨h1, fun z => ?_⟩
    rw [List.foldl_cons, h2, mem_ins1, List.mem_cons]
    constructor
    · rintro (h | h | h) <;> simp [h]
    · rintro ((h | h) | h) <;> simp [h]
theorem insS_asc (l : List ByteArray) : Asc (insS l) := (insS_aux l [] List.Pairwise.nil).1
theorem mem_insS {l : List ByteArray} {z : ByteArray} : z ∈ insS l ↔ z ∈ l := by rw [insS, (insS_aux l [] List.Pairwise.nil).2]; simp
/-- what a name waits for -/
def isOn (R : List Run) (q : ByteArray) : Bool := match runOf R q with
  | none => false
  | some x => !x.Over
def waitsRaw (W : Web) (R : List Run) (q : ByteArray) : List ByteArray := match runOf R q with
  | none => []
  | some r => if r.Over || r.Visits == 0 then [] else (stepOf W r).Asks.filter (isOn R)
def waitsL (W : Web) (R : List Run) (q : ByteArray) : List ByteArray := insS (waitsRaw W R q)
theorem waitsRaw_run {W : Web} {R : List Run} {q x : ByteArray} (h : x ∈ waitsRaw W R q) : ∃ r, runOf R x = some r ∧ r.Over = false := by
  unfold waitsRaw at h
  split at h
  · cases h
  · split at h
    · cases h
    · have := (List.mem_filter.1 h).2
      unfold isOn at this
      cases hr : runOf R x with
      | none => rw [hr] at this; cases this
      | some r => rw [hr] at this; exact ⟨r, rfl, by simpa using this⟩
theorem waits_run {W : Web} {R : List Run} {q x : ByteArray} (h : x ∈ waitsL W R q) : ∃ r, runOf R x = some r ∧ r.Over = false := waitsRaw_run (mem_insS.1 h)
theorem waitsRaw_asks {W : Web} {R : List Run} {q x : ByteArray} {r : Run} (hr : runOf R q = some r) (h : x ∈ waitsRaw W R q) : x ∈ (stepOf W r).Asks := by
  unfold waitsRaw at h
  rw [hr] at h
  simp only at h
  split at h
  · cases h
  · exact (List.mem_filter.1 h).1
theorem waits_len {W : Web} {R : List Run} (hw : checkWeb W = 0) (hR : Inv W R) (q : ByteArray) : (waitsRaw W R q).length ≤ 5 ∧ (waitsRaw W R q).Nodup := by
  unfold waitsRaw
  cases hr : runOf R q with
  | none => simp
  | some r =>
    simp only
    split
    · simp
    · have hm := hR.ok r (runOf_some hr).1
      obtain ⟨hl, he⟩ := stepIn_eq hm.at1 hm.at0
      obtain ⟨a1, a2, _⟩ := asks_ok (step_ok (act_ok hw hm.web) (List.getElem_mem hl))
      have hs : stepOf W r = (actOf W r.Name).Steps[r.At.toNat] := he
      rw [hs]
      exact ⟨Nat.le_trans (List.length_filter_le _ _) a1, a2.sublist List.filter_sublist⟩
theorem insS_perm {l ys : List ByteArray} (hp : l.Perm ys) (ha : Asc ys) : ys = insS l := asc_ext ha (insS_asc l) fun x => by rw [mem_insS, hp.mem_iff]
theorem nodup_perm_insS : ∀ {l : List ByteArray}, l.Nodup → l.Perm (insS l) := by
  intro l h
  refine (List.perm_ext_iff_of_nodup h ?_).2 (fun x => by rw [mem_insS])
  exact List.Pairwise.imp (fun h => ltS_ne h) (insS_asc l)
section
variable (wt : ByteArray → List ByteArray) (g : ByteArray)
/-- g is come to from u in just so many steps over names above g -/
def wkB : Nat → ByteArray → Bool
  | 0, _ => false
  | 1, u => (wt u).any fun x => decide (x = g)
  | n + 2, u => (wt u).any fun x => ltS g x && wkB (n + 1) x
/-- how many steps it takes, at most B; 0 for none -/
def farU : Nat → ByteArray → Nat
  | 0, _ => 0
  | n + 1, u => if farU n u = 0 then (if wkB wt g (n + 1) u then n + 1 else 0) else farU n u
end
section
variable {wt : ByteArray → List ByteArray} {g : ByteArray}
theorem farU_le : ∀ (n : Nat) (u : ByteArray), farU wt g n u ≤ n
  | 0, _ => Nat.le_refl _
  | n + 1, u => by
    have := farU_le n u
    unfold farU
    split
    · split <;> omega
    · omega
theorem farU_wk : ∀ {n : Nat} {u : ByteArray}, farU wt g n u ≠ 0 → wkB wt g (farU wt g n u) u = true
  | 0, _, h => absurd rfl h
  | n + 1, u, h => by
    unfold farU at h ⊢
    by_cases h0 : farU wt g n u = 0
    · rw [if_pos h0] at h ⊢
      by_cases hw : wkB wt g (n + 1) u = true
      · rw [if_pos hw]; exact hw
      · rw [if_neg hw] at h; exact absurd rfl h
    · rw [if_neg h0]; exact farU_wk h0
theorem farU_least : ∀ {n m : Nat} {u : ByteArray}, wkB wt g m u = true → m ≤ n → farU wt g n u ≠ 0 ∧ farU wt g n u ≤ m
  | 0, m, u, h, hm => by
    obtain rfl : m = 0 := by omega
    simp [wkB] at h
  | n + 1, m, u, h, hm => by
    unfold farU
    by_cases h0 : farU wt g n u = 0
    · rw [if_pos h0]
      by_cases hmn : m ≤ n
      · exact absurd h0 (farU_least h hmn).1
      · obtain rfl : m = n + 1 := by omega
        rw [if_pos h]; omega
    · rw [if_neg h0]
      refine ⟨h0, ?_⟩
      by_cases hmn : m ≤ n
      · exact (farU_least h hmn).2
      · have := farU_le (wt := wt) (g := g) n u; omega
theorem farU_stay {n m : Nat} {u : ByteArray} (h : farU wt g n u ≠ 0) (hm : n ≤ m) : farU wt g m u = farU wt g n u := by
  induction m with
  | zero => obtain rfl : n = 0 := by omega
            rfl
  | succ m ih =>
    by_cases e : n = m + 1
    · rw [e]
    · have := ih (by omega)
      conv => lhs; unfold farU
      rw [if_neg (by rw [this]; exact h), this]
/-- a level more -/
theorem wk_level {n : Nat} {u : ByteArray} (h0 : farU wt g (n + 1) u = 0) : wkB wt g (n + 2) u = (wt u).any fun x => ltS g x && decide (farU wt g (n + 1) x = n + 1) := by
  rw [Bool.eq_iff_iff]
  simp only [wkB, List.any_eq_true, Bool.and_eq_true, decide_eq_true_eq]
  constructor
  · rintro ⟨x, hx, hg, hk⟩
    refine ⟨x, hx, hg, ?_⟩
    obtain ⟨f1, f2⟩ := farU_least hk (Nat.le_refl _)
    by_cases e : farU wt g (n + 1) x = n + 1
    · exact e
    · exfalso
      obtain ⟨m, hm⟩ : ∃ m, farU wt g (n + 1) x = m + 1 := ⟨farU wt g (n + 1) x - 1, by omega⟩
      have hk2 := farU_wk f1
      rw [hm] at hk2
      have : wkB wt g (m + 2) u = true := by
        simp only [wkB, List.any_eq_true, Bool.and_eq_true]
        exact ⟨x, hx, hg, hk2⟩
      exact absurd h0 (farU_least this (by omega)).1
  · rintro ⟨x, hx, hg, hk⟩
    refine ⟨x, hx, hg, ?_⟩
    have := farU_wk (wt := wt) (g := g) (n := n + 1) (u := x) (by omega)
    rwa [hk] at this
end
theorem nodup_sub_len : ∀ {a b : List ByteArray}, a.Nodup → (∀ x ∈ a, x ∈ b) → a.length ≤ b.length
  | [], _, _, _ => Nat.zero_le _
  | x :: a, b, h, hs => by
    obtain ⟨h1, h2⟩ := List.nodup_cons.1 h
    have hx := hs x (List.mem_cons_self ..)
    have := nodup_sub_len (a := a) (b := b.erase x) h2 (fun y hy => (List.mem_erase_of_ne (by rintro rfl; exact h1 hy)).2 (hs y (List.mem_cons_of_mem _ hy)))
    rw [List.length_erase_of_mem hx] at this
    have hp := List.length_pos_of_mem hx
    simp only [List.length_cons]; omega
/-- a least number of steps is at most the number of names -/
theorem least_chain {wt : ByteArray → List ByteArray} {g : ByteArray} {N : List ByteArray} (hN : ∀ u, ∀ x ∈ wt u, x ∈ N) (hs : ∀ u ∈ N, True) : ∀ (n : Nat) {u : ByteArray}, u ∈ N → wkB wt g (n + 1) u = true → (∀ m, m ≤ n → wkB wt g m u = false) →
    ∃ l : List ByteArray, l.length = n + 1 ∧ l.Nodup ∧ ∀ x ∈ l, x ∈ N ∧ ∃ m, m ≤ n + 1 ∧ wkB wt g m x = true
  | 0, u, hu, hk, _ => ⟨[u], rfl, by simp, fun x hx => by simp at hx; subst hx; exact ⟨hu, 1, Nat.le_refl _, hk⟩⟩
  | n + 1, u, hu, hk, hl => by
    have hk' := hk
    simp only [wkB, List.any_eq_true, Bool.and_eq_true] at hk'
    obtain ⟨x, hx, hg, hkx⟩ := hk'
    have hlx : ∀ m, m ≤ n → wkB wt g m x = false := by
      intro m hm
      cases hq : wkB wt g m x with
      | false => rfl
      | true =>
        cases m with
        | zero => simp [wkB] at hq
        | succ m =>
          have : wkB wt g (m + 2) u = true := by
            simp only [wkB, List.any_eq_true, Bool.and_eq_true]
            exact ⟨x, hx, hg, hq⟩
          rw [hl (m + 2) (by omega)] at this; cases this
    obtain ⟨l, h1, h2, h3⟩ := least_chain hN hs n (hN u x hx) hkx hlx
    refine ⟨u :: l, by simp [h1], List.nodup_cons.2 ⟨fun h => ?_, h2⟩, fun y hy => ?_⟩
    · obtain ⟨_, m, hm, hq⟩ := h3 u h
      rw [hl m hm] at hq; cases hq
    · rcases List.mem_cons.1 hy with rfl | hy
      · exact ⟨hu, n + 2, Nat.le_refl _, hk⟩
      · obtain ⟨a, m, hm, hq⟩ := h3 y hy
        exact ⟨a, m, by omega, hq⟩
theorem farU_all {wt : ByteArray → List ByteArray} {g : ByteArray} {N : List ByteArray} (hN : ∀ u, ∀ x ∈ wt u, x ∈ N) {u : ByteArray} (hu : u ∈ N) {m : Nat} (hm : wkB wt g m u = true) : farU wt g N.length u ≠ 0 ∧ farU wt g N.length u ≤ m := by
  -- the least m
  have key : ∀ m, wkB wt g m u = true → ∃ k, k ≤ m ∧ wkB wt g k u = true ∧ ∀ j, j < k → wkB wt g j u = false := by
    intro m
    induction m using Nat.strongRecOn with
    | ind m ih =>
      intro hm
      by_cases h : ∃ j, j < m ∧ wkB wt g j u = true
      · obtain ⟨j, hj, hjk⟩ := h
        obtain ⟨k, a, b, c⟩ := ih j hj hjk
        exact ⟨k, by omega, b, c⟩
      · exact ⟨m, Nat.le_refl _, hm, fun j hj => by
          cases hq : wkB wt g j u with
          | false => rfl
          | true => exact absurd ⟨j, hj, hq⟩ h⟩
  obtain ⟨k, hkm, hk, hleast⟩ := key m hm
  have hkN : k ≤ N.length := by
    cases k with
    | zero => exact Nat.zero_le _
    | succ k =>
      obtain ⟨l, h1, h2, h3⟩ := least_chain hN (fun _ _ => trivial) k hu hk (fun j hj => hleast j (by omega))
      rw [← h1]
      exact nodup_sub_len h2 (fun x hx => (h3 x hx).1)
  obtain ⟨f1, f2⟩ := farU_least hk hkN
  exact ⟨f1, by omega⟩
/-- the way on from a name, so many steps from g -/
def pathU (wt : ByteArray → List ByteArray) (g : ByteArray) (far : ByteArray → Nat) : Nat → ByteArray → List ByteArray
  | 0, _ => []
  | 1, _ => []
  | n + 2, u => match (wt u).find? (fun x => ltS g x && decide (far x = n + 1)) with
    | none => []
    | some x => x :: pathU wt g far (n + 1) x
theorem wk_find {wt : ByteArray → List ByteArray} {g : ByteArray} {B n : Nat} {u : ByteArray} (h : farU wt g B u = n + 2) : ∃ x, (wt u).find? (fun x => ltS g x && decide (farU wt g B x = n + 1)) = some x ∧ x ∈ wt u ∧ farU wt g B x = n + 1 := by
  have hk := farU_wk (wt := wt) (g := g) (n := B) (u := u) (by omega)
  rw [h] at hk
  simp only [wkB, List.any_eq_true, Bool.and_eq_true] at hk
  obtain ⟨x, hx, hg, hkx⟩ := hk
  have hB := farU_le (wt := wt) (g := g) B u
  obtain ⟨f1, f2⟩ := farU_least hkx (show n + 1 ≤ B by omega)
  have hx2 : farU wt g B x = n + 1 := by
    by_cases e : farU wt g B x = n + 1
    · exact e
    · exfalso
      obtain ⟨m, hm⟩ : ∃ m, farU wt g B x = m + 1 := ⟨farU wt g B x - 1, by omega⟩
      have hk2 := farU_wk f1
      rw [hm] at hk2
      have : wkB wt g (m + 2) u = true := by
        simp only [wkB, List.any_eq_true, Bool.and_eq_true]
        exact ⟨x, hx, hg, hk2⟩
      have := (farU_least this (show m + 2 ≤ B by omega)).2
      omega
  cases hf : (wt u).find? (fun x => ltS g x && decide (farU wt g B x = n + 1)) with
  | none =>
    have := List.find?_eq_none.1 hf x hx
    simp [hg, hx2] at this
  | some y =>
    have h1 := List.find?_some hf
    simp only [Bool.and_eq_true, decide_eq_true_eq] at h1
    exact ⟨y, rfl, List.mem_of_find?_eq_some hf, h1.2⟩
theorem pathU_length {wt : ByteArray → List ByteArray} {g : ByteArray} {B : Nat} : ∀ {n : Nat} {u : ByteArray}, farU wt g B u = n + 1 → (pathU wt g (farU wt g B) (n + 1) u).length = n
  | 0, _, _ => rfl
  | n + 1, u, h => by
    obtain ⟨x, hf, _, hx⟩ := wk_find h
    unfold pathU
    rw [hf]
    simp [pathU_length hx]
/-- the best circle so far -/
def circStep (wt : ByteArray → List ByteArray) (B : Nat) (best : List ByteArray) (v : ByteArray) : List ByteArray :=
  if farU wt v B v = 0 ∨ (0 < best.length ∧ best.length ≤ farU wt v B v) then best else v :: pathU wt v (farU wt v B) (farU wt v B v) v
def circleU (wt : ByteArray → List ByteArray) (N : List ByteArray) : List ByteArray := N.foldl (circStep wt N.length) []
def circleL (W : Web) (R : List Run) : List ByteArray := circleU (waitsL W R) (R.map Run.Name)
end Go.Proofs.YtkpkfihaihoaeaaGreatDoor.M
end
section
set_option linter.unusedVariables false
set_option linter.unusedSimpArgs false
namespace Go.Proofs.YtkpkfihaihoaeaaGreatDoor.M
open Go.RowKit
def ltTo (l : List ByteArray) (x : ByteArray) (k : Nat) : Prop := ∀ (i : Nat) (h : i < l.length), i < k → ltS l[i] x = true
theorem ltTo_zero (l : List ByteArray) (x : ByteArray) : ltTo l x 0 := fun _ _ h => by omega
theorem ltTo_succ {l : List ByteArray} {x : ByteArray} {k : Nat} (h : ltTo l x k) (hk : k < l.length) (hx : ltS l[k] x = true) : ltTo l x (k + 1) := by
  intro i hi hik
  by_cases e : i = k
  · subst e; exact hx
  · exact h i hi (by omega)
theorem ltTo_tail {y : ByteArray} {l : List ByteArray} {x : ByteArray} {k : Nat} (h : ltTo (y :: l) x (k + 1)) : ltS y x = true ∧ ltTo l x k :=
  ⟨h 0 (by simp) (by omega), fun i hi hik => by have := h (i + 1) (by simpa using hi) (by omega); simpa using this⟩
theorem ins1_at : ∀ {l : List ByteArray} {x : ByteArray} {k : Nat}, ltTo l x k → k ≤ l.length → (∀ h : k < l.length, ltS l[k] x = false ∧ l[k] ≠ x) → ins1 l x = l.take k ++ x :: l.drop k
  | [], x, k, _, hk, _ => by
    obtain rfl : k = 0 := by simpa using hk
    rfl
  | y :: l, x, 0, _, _, hn => by
    obtain ⟨h1, h2⟩ := hn (by simp)
    simp only [List.getElem_cons_zero] at h1 h2
    unfold ins1
    rw [h1, if_neg (by decide), if_neg h2]; rfl
  | y :: l, x, k + 1, h, hk, hn => by
    obtain ⟨h1, h2⟩ := ltTo_tail h
    unfold ins1
    rw [h1, if_pos rfl, ins1_at h2 (by simpa using hk) (fun hk2 => by have := hn (by simpa using hk2); simpa using this)]
    rfl
theorem ins1_has : ∀ {l : List ByteArray} {x : ByteArray} {k : Nat}, ltTo l x k → ∀ (hk : k < l.length), l[k] = x → ins1 l x = l
  | [], x, k, _, hk, _ => by simp at hk
  | y :: l, x, 0, _, _, he => by
    simp only [List.getElem_cons_zero] at he
    subst he
    unfold ins1
    rw [ltS_irr, if_neg (by decide), if_pos rfl]
  | y :: l, x, k + 1, h, hk, he => by
    obtain ⟨h1, h2⟩ := ltTo_tail h
    unfold ins1
    rw [h1, if_pos rfl, ins1_has h2 (by simpa using hk) (by simpa using he)]
theorem ins1_len (x : ByteArray) : ∀ (l : List ByteArray), (ins1 l x).length ≤ l.length + 1
  | [] => by simp [ins1]
  | y :: l => by
    have := ins1_len x l
    unfold ins1
    split
    · simp only [List.length_cons]; omega
    · split <;> simp
theorem addr_add_add (a : Addr) (m j : Nat) : (a.add m).add j = a.add (m + j) := by
  unfold Addr.add
  by_cases hm : m = 0
  · subst hm; simp
  · by_cases hj : j = 0
    · subst hj; simp
    · simp [hm, hj, show m + j ≠ 0 by omega, Nat.add_assoc]
theorem rep_drop {w : World} {t : Nat} {l : List ByteArray} {A : Option Addr} {c : Nat} (h : rep w (strsT t l) (.slice A l.length c)) {k : Nat} (hk : k ≤ l.length) : rep w (strsT t (l.drop k)) (.slice (if c = k then A else A.map (·.add (k * 1))) (l.length - k) (c - k)) := by
  simp only [strsT, tl, rep] at h ⊢
  obtain ⟨h0, h1, A', c', vs, he, hc, hr, hcl⟩ := h
  cases he
  refine ⟨by rw [length_flatMap strC 1 (fun _ => rfl)], by simp; omega, (if c = k then A else A.map (·.add (k * 1))), c - k, vs.drop k, by rw [List.length_drop], by rw [List.length_drop]; omega, ?_, fun hn => ?_⟩
  · have := reps_drop k hr
    rw [show k = k * 1 by omega, drop_flatMap strC 1 (fun _ => rfl), Nat.mul_one] at this
    exact this
  · simp only [List.length_drop] at hn
    obtain ⟨a, rfl, hu⟩ := hcl (by omega)
    refine ⟨a.add (k * 1), by rw [if_neg (by omega)]; rfl, fun j u hj => ?_⟩
    rw [List.getElem?_drop] at hj
    have := hu _ _ hj
    rw [Nat.mul_one, addr_add_add]
    exact this
theorem step_appStrs {w wr : World} {lo : Nat} {ops : Array Oper} {o : Oper} {a : Act} {Q : Exit → Act → World → Prop} {xs ys : List ByteArray} {v : Value} {K : Act → World → Prop} {E : Prop} (hgd : o.guard = none) {s x : Operand} (ho : o.op = .call { callee := .builtin .append, args := #[s, x], argTypes := #[25, 25] }) (hs : a.eval s = v) (hlo : lo ≤ wr.heap.size) (hown : Lie lo wr (strsT 9 xs) v) (hb : Below wr.heap.size wr w)
    {A : Option Addr} {c t : Nat} (hx : a.eval x = .slice A ys.length c) (hy : rep w (strsT t ys) (.slice A ys.length c)) (hn : xs.length + ys.length ≤ 1000000)
    (h : ∀ v' w', Lie lo w' (strsT 9 (xs ++ ys)) v' → Far lo wr.heap.size w w' → K (a.put o.dst v') w') : if Region.wanted o (yielded ops a.tmps) = true then Oper.wp Tryz.prog o a w K Q else E := by
  obtain ⟨h1, h2⟩ := strs_cells hy
  exact step_appL hgd ho Tryz.underlying25 info_str rfl (by decide) hs hlo hown hb hx h1 (by simp) (Lies.flat h2 (strC_flat _) _ (Below.refl _ _)) (by simp [maxLen]; omega) (by omega) (fun v' w' h1 h2 => h v' w' (by rw [strsT_append]; exact h1) h2)
def PutP (l : List ByteArray) (v : Value) (w : World) (e : Ending) (w' : World) : Prop := ∃ v', e = .returned v' ∧ Below w.heap.size w w' ∧ (v' = v ∨ Made w w' (strsT 9 l) v')
set_option maxRecDepth 100000 in
set_option maxHeartbeats 4000000 in
theorem l6Put_calls {t : Nat} (l : List ByteArray) (x : ByteArray) (v : Value) (w : World) (h : rep w (strsT t l) v) (hl : l.length ≤ 100000) :
    Calls Tryz.prog 106 #[v, .string x] w fun e w' => ∃ v', e = .returned v' ∧ Below w.heap.size w w' ∧ ((v' = v ∧ ins1 l x = l) ∨ Made w w' (strsT 9 (ins1 l x)) v') := by
  obtain ⟨A, c, rfl, hc, _⟩ := rep_len h
  replace h := Asd.mk h
  go_enter Tryz.func106, Tryz.ntmps106
  go_wp2
  go_loop [5] (fun i => ∃ k : Nat, k ≤ l.length ∧ i = .int .i64 k ∧ ltTo l x k) (fun i => l.length - (intOf i).toNat)
  case atStart => exact ⟨0, by omega, rfl, ltTo_zero _ _⟩
  case round =>
    obtain ⟨k, hk, rfl, hA⟩ := hrel
    by_cases hlt : k < l.length
    · obtain ⟨a, c', he, hcell⟩ := str_elem h.out hlt
      cases he
      obtain ⟨y, hy⟩ : ∃ y, l[k] = y := ⟨_, rfl⟩
      rw [hy] at hcell
      by_cases hx : ltS y x = true
      · have hA2 := Asd.mk (ltTo_succ hA hlt (by rw [hy]; exact hx))
        have hx2 : Op.bytesLess y.toList x.toList = true := hx
        replace hx := Asd.mk hx
        replace hA := Asd.mk hA
        replace hy := Asd.mk hy
        go_wp2
        go_round
        case rel => exact ⟨k + 1, by omega, by go_num, hA2.out⟩
        case measure => simp [intOf]; omega
      · have hx2 : Op.bytesLess y.toList x.toList = false := Bool.eq_false_iff.2 hx
        by_cases he : y = x
        · have e1 := Asd.mk (ins1_has hA hlt (by rw [hy]; exact he))
          subst he
          have hy2 : (y.toList == y.toList) = true := by simp
          replace hx := Asd.mk hx
          replace hA := Asd.mk hA
          replace hy := Asd.mk hy
          go_wp2
          go_ret
          exact ⟨_, rfl, by repeat (first | (with_reducible exact Below.refl _ _) | (with_reducible exact Below.refl _ _) | (with_reducible refine below_al ?_ _) | (with_reducible refine below_dr ?_ _) | (with_reducible refine below_d1 ?_) | ((with_reducible refine Below.setCell ?_ ?_ _); rotate_left; (next => first | (simp; done) | (simp; omega) | omega))), .inl ⟨rfl, e1.out⟩⟩
        · have e1 := Asd.mk (ins1_at hA hk (fun h => by rw [hy]; exact ⟨Bool.eq_false_iff.2 hx, he⟩))
          have he2 : (y.toList == x.toList) = false := by rw [Bool.eq_false_iff]; exact fun h => he ((ba_eq _ _).1 h)
          replace hx := Asd.mk hx
          replace hA := Asd.mk hA
          replace hy := Asd.mk hy
          replace he := Asd.mk he
          go_upto_region 6 with (fail)
          obtain ⟨ys, hys⟩ : ∃ ys, l.take k = ys := ⟨_, rfl⟩
          obtain ⟨zs, hzs⟩ : ∃ zs, l.drop k = zs := ⟨_, rfl⟩
          have hyl := Asd.mk (show ys.length = k by rw [← hys, List.length_take]; omega)
          have hzl := Asd.mk (show zs.length = l.length - k by rw [← hzs, List.length_drop])
          rw [hys, hzs] at e1
          have hry := Asd.mk (show rep w (strsT t ys) (.slice (some a) ys.length c) by rw [hyl.out, ← hys]; exact rep_take h.out (fun _ => rfl) hk)
          have hrz := Asd.mk (show rep w (strsT t zs) (.slice (if c = k then (some a) else ((some a) : Option Addr).map (·.add (k * 1))) zs.length (c - k)) by rw [hzl.out, ← hzs]; exact rep_drop h.out hk)
          clear hys hzs
          go_wp2_with (at_builtin; refine appNew rfl rfl rfl rfl (by rw [hyl.out]; rfl) hry.out (by rw [hyl.out]; omega) ?_)
          intro v1 w1 hL1 hb1 hz1
          obtain ⟨B1, d1, rfl, _, _⟩ := hL1.slice
          replace hL1 := Asd.mk hL1
          replace hb1 := Asd.mk hb1
          go_upto_region 7 with (fail)
          refine wp_region_held_drew (S := fun Z => True) (by kernel_rfl) trivial (fun hHeld => ?_)
          ((refine wpAnyH_take (i := 0) (v := ?_) rfl (by kernel_rfl) (by kernel_rfl) (by kernel_rfl) (fun _ _ _ h => h) (Or.inl ⟨by rfl, ?_⟩) (by assumption) ?_; rotate_left; (next => ((intro X hX; (try dsimp only at hX); go_simp); try with_reducible rfl))); (try simp only [Act.put, List.getElem_toArray, List.getElem_cons_succ, List.getElem_cons_zero, List.setIfInBounds_toArray, List.set_cons_zero, List.set_cons_succ]); (refine wpAnyH_take (i := 1) (v := ?_) rfl (by kernel_rfl) (by kernel_rfl) (by kernel_rfl) (fun _ _ _ h => h) (Or.inl ⟨by rfl, ?_⟩) (by assumption) ?_; rotate_left; (next => ((intro X hX; (try dsimp only at hX); go_simp); try with_reducible rfl))); (try simp only [Act.put, List.getElem_toArray, List.getElem_cons_succ, List.getElem_cons_zero, List.setIfInBounds_toArray, List.set_cons_zero, List.set_cons_succ]); (refine wpAnyH_take (i := 4) (v := ?_) rfl (by kernel_rfl) (by kernel_rfl) (by kernel_rfl) (fun _ _ _ h => h) (Or.inl ⟨by rfl, ?_⟩) (by assumption) ?_; rotate_left; (next => ((intro X hX; (try dsimp only at hX); go_simp); try with_reducible rfl))); (try simp only [Act.put, List.getElem_toArray, List.getElem_cons_succ, List.getElem_cons_zero, List.setIfInBounds_toArray, List.set_cons_zero, List.set_cons_succ]); (refine wpAnyH_take (i := 5) (v := ?_) rfl (by kernel_rfl) (by kernel_rfl) (by kernel_rfl) (fun _ _ _ h => h) (Or.inl ⟨by rfl, ?_⟩) (by assumption) ?_; rotate_left; (next => ((intro X hX; (try dsimp only at hX); go_simp); try with_reducible rfl))); (try simp only [Act.put, List.getElem_toArray, List.getElem_cons_succ, List.getElem_cons_zero, List.setIfInBounds_toArray, List.set_cons_zero, List.set_cons_succ]); (refine wpAnyH_take (i := 6) (v := ?_) rfl (by kernel_rfl) (by kernel_rfl) (by kernel_rfl) (fun _ _ _ h => h) (Or.inl ⟨by rfl, ?_⟩) (by assumption) ?_; rotate_left; (next => ((intro X hX; (try dsimp only at hX); go_simp); try with_reducible rfl))); (try simp only [Act.put, List.getElem_toArray, List.getElem_cons_succ, List.getElem_cons_zero, List.setIfInBounds_toArray, List.set_cons_zero, List.set_cons_succ]))
          (refine wpAnyH_ready (rs := [2]) (by kernel_rfl) (by simp) ?_; refine AllReadyH.cons rfl (fun K hK => ?_) AllReadyH.nil)
          go_simp
          refine hK.out _ _ trivial (fun hHeld => ?_)
          clear hK K
          (try simp only [Act.put, List.setIfInBounds_toArray, List.set_cons_zero, List.set_cons_succ])
          (refine wpAnyH_ready (rs := [3]) (by kernel_rfl) (by simp) ?_; refine AllReadyH.cons rfl (fun K hK => ?_) AllReadyH.nil)
          refine step_appStr (by rfl) (by rfl) (by rfl) (lo := w.heap.size) (wr := w1) hb1.out.size hL1.out (show Below w1.heap.size w1 (w1.drew.alloc (.cells #[.string x] 9)) from by repeat (first | (with_reducible exact Below.refl _ _) | (with_reducible exact Below.refl _ _) | (with_reducible refine below_al ?_ _) | (with_reducible refine below_dr ?_ _) | (with_reducible refine below_d1 ?_) | ((with_reducible refine Below.setCell ?_ ?_ _); rotate_left; (next => first | (simp; done) | (simp; omega) | omega)))) (by rfl) (show (w1.drew.alloc (.cells #[.string x] 9)).heap[w1.heap.size]? = _ from heap_alloc_new w1.drew _) (by rw [hyl.out]; omega) ?_
          intro v3 w3 hL3 hF3
          obtain ⟨B3, d3, rfl, _, _⟩ := hL3.slice
          have hb3 := Asd.mk (Far.trans (show Below w.heap.size w _ from by repeat (first | (with_reducible exact Below.refl _ _) | (with_reducible exact hb1.out) | (with_reducible refine below_al ?_ _) | (with_reducible refine below_dr ?_ _) | (with_reducible refine below_d1 ?_) | ((with_reducible refine Below.setCell ?_ ?_ _); rotate_left; (next => first | (simp; done) | (simp; omega) | omega)))) hF3 (Nat.le_refl _) (by have := hb1.out.size; simp; omega))
          replace hL3 := Asd.mk hL3
          clear hF3
          refine hK.out _ _ trivial (fun hHeld => ?_)
          clear hK K
          (try simp only [Act.put, List.setIfInBounds_toArray, List.set_cons_zero, List.set_cons_succ])
          (refine wpAnyH_ready (rs := [7]) (by kernel_rfl) (by simp) ?_; refine AllReadyH.cons rfl (fun K hK => ?_) AllReadyH.nil)
          refine step_appStrs (by rfl) (by rfl) (by rfl) (lo := w.heap.size) (wr := w3) hb3.out.size hL3.out (Below.refl _ _) (by rw [hzl.out]; first | rfl | (simp; done) | (simp; rfl)) (hrz.out.below hb3.out) (by rw [hzl.out, List.length_append, hyl.out]; simp; omega) ?_
          intro v4 w4 hL4 hF4
          obtain ⟨B4, d4, rfl, _, _⟩ := hL4.slice
          obtain ⟨n4, hn4⟩ : ∃ n, (ys ++ [x] ++ zs).length = n := ⟨_, rfl⟩
          rw [hn4] at hL4 ⊢
          clear hn4
          have e9 := Asd.mk (show ins1 l x = ys ++ [x] ++ zs by rw [e1.out]; simp)
          have hb4 := Asd.mk (Far.trans hb3.out hF4 (Nat.le_refl _) hb3.out.size)
          replace hL4 := Asd.mk hL4
          clear hF4
          refine hK.out _ _ trivial (fun hHeld => ?_)
          clear hK K
          ((refine wpAnyH_take (i := 8) (v := ?_) rfl (by kernel_rfl) (by kernel_rfl) (by kernel_rfl) (fun _ _ _ h => h) (Or.inl ⟨by rfl, ?_⟩) (by assumption) ?_; rotate_left; (next => ((intro X hX; (try dsimp only at hX); go_simp); try with_reducible rfl))); (try simp only [Act.put, List.getElem_toArray, List.getElem_cons_succ, List.getElem_cons_zero, List.setIfInBounds_toArray, List.set_cons_zero, List.set_cons_succ]))
          refine wpAnyH_done (by kernel_rfl) ?_ _
          go_wp2
          all_goals
            go_ret
            refine ⟨_, rfl, hb4.out, .inr ?_⟩
            rw [e9.out]
            exact Lie.made hL4.out
    · obtain rfl : k = l.length := by omega
      have e1 := Asd.mk (ins1_at hA hk (fun h => absurd h hlt))
      replace hA := Asd.mk hA
      go_upto_region 6 with (fail)
      obtain ⟨ys, hys⟩ : ∃ ys, l.take l.length = ys := ⟨_, rfl⟩
      obtain ⟨zs, hzs⟩ : ∃ zs, l.drop l.length = zs := ⟨_, rfl⟩
      have hyl := Asd.mk (show ys.length = l.length by rw [← hys, List.length_take]; omega)
      have hzl := Asd.mk (show zs.length = l.length - l.length by rw [← hzs, List.length_drop])
      rw [hys, hzs] at e1
      have hry := Asd.mk (show rep w (strsT t ys) (.slice A ys.length c) by rw [hyl.out, ← hys]; exact rep_take h.out (fun _ => rfl) hk)
      have hrz := Asd.mk (show rep w (strsT t zs) (.slice (if c = l.length then A else (A : Option Addr).map (·.add (l.length * 1))) zs.length (c - l.length)) by rw [hzl.out, ← hzs]; exact rep_drop h.out hk)
      clear hys hzs
      go_wp2_with (at_builtin; refine appNew rfl rfl rfl rfl (by rw [hyl.out]; rfl) hry.out (by rw [hyl.out]; omega) ?_)
      intro v1 w1 hL1 hb1 hz1
      obtain ⟨B1, d1, rfl, _, _⟩ := hL1.slice
      replace hL1 := Asd.mk hL1
      replace hb1 := Asd.mk hb1
      go_upto_region 7 with (fail)
      refine wp_region_held_drew (S := fun Z => True) (by kernel_rfl) trivial (fun hHeld => ?_)
      ((refine wpAnyH_take (i := 0) (v := ?_) rfl (by kernel_rfl) (by kernel_rfl) (by kernel_rfl) (fun _ _ _ h => h) (Or.inl ⟨by rfl, ?_⟩) (by assumption) ?_; rotate_left; (next => ((intro X hX; (try dsimp only at hX); go_simp); try with_reducible rfl))); (try simp only [Act.put, List.getElem_toArray, List.getElem_cons_succ, List.getElem_cons_zero, List.setIfInBounds_toArray, List.set_cons_zero, List.set_cons_succ]); (refine wpAnyH_take (i := 1) (v := ?_) rfl (by kernel_rfl) (by kernel_rfl) (by kernel_rfl) (fun _ _ _ h => h) (Or.inl ⟨by rfl, ?_⟩) (by assumption) ?_; rotate_left; (next => ((intro X hX; (try dsimp only at hX); go_simp); try with_reducible rfl))); (try simp only [Act.put, List.getElem_toArray, List.getElem_cons_succ, List.getElem_cons_zero, List.setIfInBounds_toArray, List.set_cons_zero, List.set_cons_succ]); (refine wpAnyH_take (i := 4) (v := ?_) rfl (by kernel_rfl) (by kernel_rfl) (by kernel_rfl) (fun _ _ _ h => h) (Or.inl ⟨by rfl, ?_⟩) (by assumption) ?_; rotate_left; (next => ((intro X hX; (try dsimp only at hX); go_simp); try with_reducible rfl))); (try simp only [Act.put, List.getElem_toArray, List.getElem_cons_succ, List.getElem_cons_zero, List.setIfInBounds_toArray, List.set_cons_zero, List.set_cons_succ]); (refine wpAnyH_take (i := 5) (v := ?_) rfl (by kernel_rfl) (by kernel_rfl) (by kernel_rfl) (fun _ _ _ h => h) (Or.inl ⟨by rfl, ?_⟩) (by assumption) ?_; rotate_left; (next => ((intro X hX; (try dsimp only at hX); go_simp); try with_reducible rfl))); (try simp only [Act.put, List.getElem_toArray, List.getElem_cons_succ, List.getElem_cons_zero, List.setIfInBounds_toArray, List.set_cons_zero, List.set_cons_succ]); (refine wpAnyH_take (i := 6) (v := ?_) rfl (by kernel_rfl) (by kernel_rfl) (by kernel_rfl) (fun _ _ _ h => h) (Or.inl ⟨by rfl, ?_⟩) (by assumption) ?_; rotate_left; (next => ((intro X hX; (try dsimp only at hX); go_simp); try with_reducible rfl))); (try simp only [Act.put, List.getElem_toArray, List.getElem_cons_succ, List.getElem_cons_zero, List.setIfInBounds_toArray, List.set_cons_zero, List.set_cons_succ]))
      (refine wpAnyH_ready (rs := [2]) (by kernel_rfl) (by simp) ?_; refine AllReadyH.cons rfl (fun K hK => ?_) AllReadyH.nil)
      go_simp
      refine hK.out _ _ trivial (fun hHeld => ?_)
      clear hK K
      (try simp only [Act.put, List.setIfInBounds_toArray, List.set_cons_zero, List.set_cons_succ])
      (refine wpAnyH_ready (rs := [3]) (by kernel_rfl) (by simp) ?_; refine AllReadyH.cons rfl (fun K hK => ?_) AllReadyH.nil)
      refine step_appStr (by rfl) (by rfl) (by rfl) (lo := w.heap.size) (wr := w1) hb1.out.size hL1.out (show Below w1.heap.size w1 (w1.drew.alloc (.cells #[.string x] 9)) from by repeat (first | (with_reducible exact Below.refl _ _) | (with_reducible exact Below.refl _ _) | (with_reducible refine below_al ?_ _) | (with_reducible refine below_dr ?_ _) | (with_reducible refine below_d1 ?_) | ((with_reducible refine Below.setCell ?_ ?_ _); rotate_left; (next => first | (simp; done) | (simp; omega) | omega)))) (by rfl) (show (w1.drew.alloc (.cells #[.string x] 9)).heap[w1.heap.size]? = _ from heap_alloc_new w1.drew _) (by rw [hyl.out]; omega) ?_
      intro v3 w3 hL3 hF3
      obtain ⟨B3, d3, rfl, _, _⟩ := hL3.slice
      have hb3 := Asd.mk (Far.trans (show Below w.heap.size w _ from by repeat (first | (with_reducible exact Below.refl _ _) | (with_reducible exact hb1.out) | (with_reducible refine below_al ?_ _) | (with_reducible refine below_dr ?_ _) | (with_reducible refine below_d1 ?_) | ((with_reducible refine Below.setCell ?_ ?_ _); rotate_left; (next => first | (simp; done) | (simp; omega) | omega)))) hF3 (Nat.le_refl _) (by have := hb1.out.size; simp; omega))
      replace hL3 := Asd.mk hL3
      clear hF3
      refine hK.out _ _ trivial (fun hHeld => ?_)
      clear hK K
      (try simp only [Act.put, List.setIfInBounds_toArray, List.set_cons_zero, List.set_cons_succ])
      (refine wpAnyH_ready (rs := [7]) (by kernel_rfl) (by simp) ?_; refine AllReadyH.cons rfl (fun K hK => ?_) AllReadyH.nil)
      refine step_appStrs (by rfl) (by rfl) (by rfl) (lo := w.heap.size) (wr := w3) hb3.out.size hL3.out (Below.refl _ _) (by rw [hzl.out]; first | rfl | (simp; done) | (simp; rfl)) (hrz.out.below hb3.out) (by rw [hzl.out, List.length_append, hyl.out]; simp; omega) ?_
      intro v4 w4 hL4 hF4
      obtain ⟨B4, d4, rfl, _, _⟩ := hL4.slice
      obtain ⟨n4, hn4⟩ : ∃ n, (ys ++ [x] ++ zs).length = n := ⟨_, rfl⟩
      rw [hn4] at hL4 ⊢
      clear hn4
      have e9 := Asd.mk (show ins1 l x = ys ++ [x] ++ zs by rw [e1.out]; simp)
      have hb4 := Asd.mk (Far.trans hb3.out hF4 (Nat.le_refl _) hb3.out.size)
      replace hL4 := Asd.mk hL4
      clear hF4
      refine hK.out _ _ trivial (fun hHeld => ?_)
      clear hK K
      ((refine wpAnyH_take (i := 8) (v := ?_) rfl (by kernel_rfl) (by kernel_rfl) (by kernel_rfl) (fun _ _ _ h => h) (Or.inl ⟨by rfl, ?_⟩) (by assumption) ?_; rotate_left; (next => ((intro X hX; (try dsimp only at hX); go_simp); try with_reducible rfl))); (try simp only [Act.put, List.getElem_toArray, List.getElem_cons_succ, List.getElem_cons_zero, List.setIfInBounds_toArray, List.set_cons_zero, List.set_cons_succ]))
      refine wpAnyH_done (by kernel_rfl) ?_ _
      go_wp2
      all_goals
        go_ret
        refine ⟨_, rfl, hb4.out, .inr ?_⟩
        rw [e9.out]
        exact Lie.made hL4.out
end Go.Proofs.YtkpkfihaihoaeaaGreatDoor.M
end
section
set_option linter.unusedVariables false
set_option linter.unusedSimpArgs false
namespace Go.Proofs.YtkpkfihaihoaeaaGreatDoor.M
open Go.RowKit
section
variable (wt : ByteArray → List ByteArray)
inductive TC : ByteArray → ByteArray → Prop where
  | base {q x : ByteArray} : x ∈ wt q → TC q x
  | step {q y x : ByteArray} : TC q y → x ∈ wt y → TC q x
def growU (l : List ByteArray) : List ByteArray := (l.flatMap wt).foldl ins1 l
def reachF : Nat → List ByteArray → List ByteArray
  | 0, l => l
  | n + 1, l => if (growU wt l).length = l.length then l else reachF n (growU wt l)
def reachL (N : List ByteArray) (q : ByteArray) : List ByteArray := reachF wt N.length (wt q)
def stuckU (N : List ByteArray) (q : ByteArray) : Bool := (reachL wt N q ++ [q]).any (fun y => decide (y ∈ reachL wt N y))
end
section
variable {wt : ByteArray → List ByteArray} {N : List ByteArray}
theorem TC.trans {a b : ByteArray} (h : TC wt a b) {c : ByteArray} (k : TC wt b c) : TC wt a c := by
  induction k with
  | base h1 => exact .step h h1
  | step _ h1 ih => exact .step ih h1
theorem TC.head {a b : ByteArray} (h : TC wt a b) : ∃ x ∈ wt a, x = b ∨ TC wt x b := by
  induction h with
  | base h1 => exact ⟨_, h1, .inl rfl⟩
  | step _ h1 ih =>
    obtain ⟨x, hx, h2⟩ := ih
    rcases h2 with rfl | h2
    · exact ⟨_, hx, .inr (.base h1)⟩
    · exact ⟨_, hx, .inr (.step h2 h1)⟩
theorem TC.last {a b : ByteArray} (h : TC wt a b) : ∃ y, b ∈ wt y := by
  cases h with
  | base h1 => exact ⟨_, h1⟩
  | step _ h1 => exact ⟨_, h1⟩
theorem nodup_full {a b : List ByteArray} (ha : a.Nodup) (hs : ∀ x ∈ a, x ∈ b) (hl : b.length ≤ a.length) : ∀ x ∈ b, x ∈ a := by
  intro x hx
  refine Classical.byContradiction fun hn => ?_
  have := nodup_sub_len (a := x :: a) (b := b) (List.nodup_cons.2 ⟨hn, ha⟩) (fun y hy => by
    rcases List.mem_cons.1 hy with rfl | hy
    · exact hx
    · exact hs y hy)
  simp only [List.length_cons] at this; omega
theorem Asc.nodup {l : List ByteArray} (h : Asc l) : l.Nodup := List.Pairwise.imp (fun h => ltS_ne h) h
theorem growU_asc {l : List ByteArray} (h : Asc l) : Asc (growU wt l) := (insS_aux _ _ h).1
theorem mem_growU {l : List ByteArray} (h : Asc l) {x : ByteArray} : x ∈ growU wt l ↔ (∃ y ∈ l, x ∈ wt y) ∨ x ∈ l := by
  unfold growU
  rw [(insS_aux _ _ h).2, List.mem_flatMap]
theorem reachF_asc : ∀ (n : Nat) {l : List ByteArray}, Asc l → Asc (reachF wt n l)
  | 0, l, h => h
  | n + 1, l, h => by
    unfold reachF
    split
    · exact h
    · exact reachF_asc n (growU_asc h)
theorem reachF_mem (hN : ∀ u, ∀ x ∈ wt u, x ∈ N) {q : ByteArray} : ∀ (n : Nat) {l : List ByteArray}, Asc l → (∀ x ∈ l, TC wt q x) → (∀ x ∈ wt q, x ∈ l) → N.length ≤ n + l.length → ∀ x, x ∈ reachF wt n l ↔ TC wt q x := by
  intro n
  induction n with
  | zero =>
    intro l ha h1 h2 hl x
    refine ⟨fun hx => h1 x hx, fun hx => ?_⟩
    obtain ⟨y, hy⟩ := hx.last
    exact nodup_full ha.nodup (fun z hz => by obtain ⟨y, hy⟩ := (h1 z hz).last; exact hN y z hy) (by simpa [reachF] using hl) x (hN y x hy)
  | succ n ih =>
    intro l ha h1 h2 hl x
    unfold reachF
    by_cases he : (growU wt l).length = l.length
    · rw [if_pos he]
      refine ⟨fun hx => h1 x hx, fun hx => ?_⟩
      have hfull := nodup_full (a := l) (b := growU wt l) ha.nodup (fun z hz => (mem_growU ha).2 (.inr hz)) (Nat.le_of_eq he)
      induction hx with
      | base h => exact h2 _ h
      | step _ h ih2 => exact hfull _ ((mem_growU ha).2 (.inl ⟨_, ih2, h⟩))
    · rw [if_neg he]
      have hle : l.length ≤ (growU wt l).length := nodup_sub_len ha.nodup (fun z hz => (mem_growU ha).2 (.inr hz))
      refine ih (growU_asc ha) (fun z hz => ?_) (fun z hz => (mem_growU ha).2 (.inr (h2 z hz))) (by omega) x
      rcases (mem_growU ha).1 hz with ⟨y, hy, hz⟩ | hz
      · exact .step (h1 y hy) hz
      · exact h1 z hz
theorem reachL_mem (hN : ∀ u, ∀ x ∈ wt u, x ∈ N) (ha : ∀ u, Asc (wt u)) (q x : ByteArray) : x ∈ reachL wt N q ↔ TC wt q x :=
  reachF_mem hN _ (ha q) (fun x hx => .base hx) (fun x hx => hx) (by omega) x
theorem stuckU_iff (hN : ∀ u, ∀ x ∈ wt u, x ∈ N) (ha : ∀ u, Asc (wt u)) (q : ByteArray) : stuckU wt N q = true ↔ ∃ y, (y = q ∨ TC wt q y) ∧ TC wt y y := by
  unfold stuckU
  rw [List.any_eq_true]
  constructor
  · rintro ⟨y, hy, h⟩
    have h2 := (reachL_mem hN ha _ _).1 (of_decide_eq_true h)
    rcases List.mem_append.1 hy with hy | hy
    · exact ⟨y, .inr ((reachL_mem hN ha _ _).1 hy), h2⟩
    · exact ⟨y, .inl (List.mem_singleton.1 hy), h2⟩
  · rintro ⟨y, hy, h⟩
    refine ⟨y, ?_, decide_eq_true ((reachL_mem hN ha _ _).2 h)⟩
    rcases hy with rfl | hy
    · simp
    · exact List.mem_append_left _ ((reachL_mem hN ha _ _).2 hy)
theorem stuck_closed (hN : ∀ u, ∀ x ∈ wt u, x ∈ N) (ha : ∀ u, Asc (wt u)) {q : ByteArray} (h : stuckU wt N q = true) : ∃ x ∈ wt q, stuckU wt N x = true := by
  obtain ⟨y, hy, hc⟩ := (stuckU_iff hN ha q).1 h
  have hqy : TC wt q y := by
    rcases hy with rfl | hy
    · exact hc
    · exact hy
  obtain ⟨x, hx, hxy⟩ := hqy.head
  refine ⟨x, hx, (stuckU_iff hN ha x).2 ⟨y, ?_, hc⟩⟩
  rcases hxy with rfl | hxy
  · exact .inl rfl
  · exact .inr hxy
inductive Pth (wt : ByteArray → List ByteArray) (q : ByteArray) : List ByteArray → Prop where
  | one : Pth wt q [q]
  | more {x y : ByteArray} {l : List ByteArray} : x ∈ wt y → Pth wt q (y :: l) → Pth wt q (x :: y :: l)
theorem Pth.to {q : ByteArray} {l : List ByteArray} (h : Pth wt q l) : ∀ x t, l = x :: t → ∀ y ∈ t, TC wt y x := by
  induction h with
  | one => intro x t e y hy; cases e; cases hy
  | more h1 h2 ih =>
    intro x t e y hy
    cases e
    rcases List.mem_cons.1 hy with rfl | hy
    · exact .base h1
    · exact .step (ih _ _ rfl y hy) h1
theorem Pth.from {q : ByteArray} {l : List ByteArray} (h : Pth wt q l) : ∀ y ∈ l, y = q ∨ TC wt q y := by
  induction h with
  | one => intro y hy; exact .inl (List.mem_singleton.1 hy)
  | more h1 h2 ih =>
    intro y hy
    rcases List.mem_cons.1 hy with rfl | hy
    · rcases ih _ (List.mem_cons_self ..) with rfl | h
      · exact .inr (.base h1)
      · exact .inr (.step h h1)
    · exact ih y hy
theorem Pth.twice {q : ByteArray} {l : List ByteArray} (h : Pth wt q l) (hn : ¬l.Nodup) : ∃ y ∈ l, TC wt y y := by
  induction h with
  | one => exact absurd (by simp) hn
  | more h1 h2 ih =>
    rename_i x y l
    by_cases hx : x ∈ y :: l
    · exact ⟨x, List.mem_cons_self .., Pth.to (.more h1 h2) _ _ rfl x hx⟩
    · obtain ⟨z, hz, hc⟩ := ih (fun hn2 => hn (List.nodup_cons.2 ⟨hx, hn2⟩))
      exact ⟨z, List.mem_cons_of_mem _ hz, hc⟩
theorem pth_exists {S : List ByteArray} (hS : ∀ q ∈ S, ∃ x ∈ wt q, x ∈ S) {q : ByteArray} (hq : q ∈ S) : ∀ n, ∃ l, Pth wt q l ∧ l.length = n + 1 ∧ ∀ y ∈ l, y ∈ S
  | 0 => ⟨[q], .one, rfl, fun y hy => List.mem_singleton.1 hy ▸ hq⟩
  | n + 1 => by
    obtain ⟨l, h1, h2, h3⟩ := pth_exists hS hq n
    cases l with
    | nil => cases h2
    | cons y t =>
      obtain ⟨x, hx, hxS⟩ := hS y (h3 y (List.mem_cons_self ..))
      refine ⟨x :: y :: t, .more hx h1, by rw [List.length_cons, h2], fun z hz => ?_⟩
      rcases List.mem_cons.1 hz with rfl | hz
      · exact hxS
      · exact h3 z hz
theorem stuck_max (hN : ∀ u, ∀ x ∈ wt u, x ∈ N) (ha : ∀ u, Asc (wt u)) {S : List ByteArray} (hS : ∀ q ∈ S, ∃ x ∈ wt q, x ∈ S) {q : ByteArray} (hq : q ∈ S) : stuckU wt N q = true := by
  obtain ⟨l, h1, h2, h3⟩ := pth_exists hS hq S.length
  have hn : ¬l.Nodup := fun h => by have := nodup_sub_len h h3; omega
  obtain ⟨y, hy, hc⟩ := h1.twice hn
  exact (stuckU_iff hN ha q).2 ⟨y, h1.from y hy, hc⟩
end
def stuckL (W : Web) (R : List Run) : List ByteArray := (R.map Run.Name).filter (stuckU (waitsL W R) (R.map Run.Name))
theorem waits_names {W : Web} {R : List Run} (u x : ByteArray) (h : x ∈ waitsL W R u) : x ∈ R.map Run.Name := by
  obtain ⟨r, hr, _⟩ := waits_run h
  obtain ⟨h1, h2⟩ := runOf_some hr
  exact List.mem_map.2 ⟨r, h1, h2⟩
theorem waits_asc (W : Web) (R : List Run) (u : ByteArray) : Asc (waitsL W R u) := insS_asc _
theorem filter_asc {l : List ByteArray} (h : Asc l) (p : ByteArray → Bool) : Asc (l.filter p) := List.Pairwise.filter p h
/-- the names of a list that is asked for in any order, those that p holds of put in -/
theorem stuckL_asc {W : Web} {R : List Run} (h : AscR R) : Asc (stuckL W R) := filter_asc h _
end Go.Proofs.YtkpkfihaihoaeaaGreatDoor.M
end
section
set_option linter.unusedVariables false
set_option linter.unusedSimpArgs false
namespace Go.Proofs.YtkpkfihaihoaeaaGreatDoor.M
open Go.RowKit
def onTo (R : List Run) (asks : List ByteArray) (k : Nat) : List ByteArray := (asks.take k).filter (isOn R)
theorem onTo_zero (R : List Run) (asks : List ByteArray) : onTo R asks 0 = [] := rfl
theorem onTo_yes {R : List Run} {asks : List ByteArray} {k : Nat} (hk : k < asks.length) (h : isOn R asks[k] = true) : onTo R asks (k + 1) = onTo R asks k ++ [asks[k]] := by
  unfold onTo
  rw [List.take_succ_eq_append_getElem hk, List.filter_append, List.filter_cons, if_pos h]; rfl
theorem onTo_no {R : List Run} {asks : List ByteArray} {k : Nat} (hk : k < asks.length) (h : isOn R asks[k] = false) : onTo R asks (k + 1) = onTo R asks k := by
  unfold onTo
  rw [List.take_succ_eq_append_getElem hk, List.filter_append, List.filter_cons, if_neg (by rw [h]; decide)]; simp
theorem onTo_end (R : List Run) (asks : List ByteArray) : onTo R asks asks.length = asks.filter (isOn R) := by unfold onTo; rw [List.take_length]
theorem onTo_len (R : List Run) (asks : List ByteArray) (k : Nat) : (onTo R asks k).length ≤ k := by
  unfold onTo
  exact Nat.le_trans (List.length_filter_le _ _) (by simp; omega)
theorem isOn_none {R : List Run} {q : ByteArray} (h : runOf R q = none) : isOn R q = false := by unfold isOn; rw [h]
theorem isOn_some {R : List Run} {q : ByteArray} {r : Run} (h : runOf R q = some r) : isOn R q = !r.Over := by unfold isOn; rw [h]
theorem waits_none {W : Web} {R : List Run} {q : ByteArray} (h : runOf R q = none) : waitsL W R q = [] := by unfold waitsL waitsRaw; rw [h]; rfl
theorem waits_no {W : Web} {R : List Run} {q : ByteArray} {r : Run} (h : runOf R q = some r) (h2 : (r.Over || r.Visits == 0) = true) : waitsL W R q = [] := by unfold waitsL waitsRaw; rw [h]; simp only; rw [if_pos h2]; rfl
theorem waits_raw {W : Web} {R : List Run} {q : ByteArray} {r : Run} (h : runOf R q = some r) (h2 : (r.Over || r.Visits == 0) = false) : waitsRaw W R q = (stepOf W r).Asks.filter (isOn R) := by unfold waitsRaw; rw [h]; simp only; rw [if_neg (by rw [h2]; decide)]
set_option maxRecDepth 100000 in
set_option maxHeartbeats 4000000 in
theorem waits_calls {lo : Nat} (W : Web) (roots : List ByteArray) (R : List Run) (e : Nat) (F : List Nat) (q : ByteArray) (w : World) (h : Eng lo w W roots R e F) (hw : checkWeb W = 0) (hI : Inv W R) :
    Calls Tryz.prog 101 #[.pointer (some ⟨e, 0, none⟩), .string q] w (MadeV w (strsT 9 (waitsL W R q))) := by
  obtain ⟨m, nv, rv, L, Fr, W0, tN, tS, tC, hX⟩ := h
  obtain ⟨A, c, B, d, rfl, rfl, _, _, c0, c1, c2⟩ := hX.cells
  obtain ⟨ha, hn⟩ := web_asc hw
  replace ha := Asd.mk ha
  cases hr : runOf R q with
  | none =>
    have hl := hX.run_none hr
    have e1 := Asd.mk (waits_none (W := W) hr)
    clear hX hr
    go_enter Tryz.func101, Tryz.ntmps101
    go_wp2
    go_ret
    rw [e1.out]
    exact ⟨_, rfl, Lie.made (Lie.nil _ _ _ _), by repeat (first | (with_reducible exact Below.refl _ _) | (with_reducible exact Below.refl _ _) | (with_reducible refine below_al ?_ _) | (with_reducible refine below_dr ?_ _) | (with_reducible refine below_d1 ?_) | ((with_reducible refine Below.setCell ?_ ?_ _); rotate_left; (next => first | (simp; done) | (simp; omega) | omega)))⟩
  | some r =>
    obtain ⟨x, hx, hxr, hl⟩ := hX.run_some hr
    have hRb := (hX.runs x hx).1
    rw [hxr] at hRb
    have y0 : w.cell? ⟨x.b, 0, none⟩ = some (.string r.Name) := cellOf hRb (i := 0) rfl
    have y1 : w.cell? ⟨x.b, 1, none⟩ = some (.bool r.Over) := cellOf hRb (i := 1) rfl
    have y4 : w.cell? ⟨x.b, 4, none⟩ = some (.int .i64 r.At) := cellOf hRb (i := 4) rfl
    have y5 : w.cell? ⟨x.b, 5, none⟩ = some (.int .i64 r.Visits) := cellOf hRb (i := 5) rfl
    clear hRb
    by_cases ho : r.Over = true
    · have e1 := Asd.mk (waits_no (W := W) hr (by rw [ho]; rfl))
      rw [ho] at y1
      clear hX hr y0 y4 y5
      go_enter Tryz.func101, Tryz.ntmps101
      go_wp2
      go_ret
      rw [e1.out]
      exact ⟨_, rfl, Lie.made (Lie.nil _ _ _ _), by repeat (first | (with_reducible exact Below.refl _ _) | (with_reducible exact Below.refl _ _) | (with_reducible refine below_al ?_ _) | (with_reducible refine below_dr ?_ _) | (with_reducible refine below_d1 ?_) | ((with_reducible refine Below.setCell ?_ ?_ _); rotate_left; (next => first | (simp; done) | (simp; omega) | omega)))⟩
    replace ho := Bool.eq_false_iff.2 ho
    rw [ho] at y1
    by_cases hv : r.Visits = 0
    · have e1 := Asd.mk (waits_no (W := W) hr (by rw [ho, hv]; rfl))
      rw [hv] at y5
      clear hX hr y0 y4
      go_enter Tryz.func101, Tryz.ntmps101
      go_wp2
      go_ret
      rw [e1.out]
      exact ⟨_, rfl, Lie.made (Lie.nil _ _ _ _), by repeat (first | (with_reducible exact Below.refl _ _) | (with_reducible exact Below.refl _ _) | (with_reducible refine below_al ?_ _) | (with_reducible refine below_dr ?_ _) | (with_reducible refine below_d1 ?_) | ((with_reducible refine Below.setCell ?_ ?_ _); rotate_left; (next => first | (simp; done) | (simp; omega) | omega)))⟩
    have hvb : (r.Visits == 0) = false := by simp [hv]
    have e1 := Asd.mk (waits_raw (W := W) hr (by rw [ho, hvb]; rfl))
    obtain ⟨w1, w2⟩ := waits_len hw hI q
    have hok := hI.ok r (runOf_some hr).1
    obtain ⟨n, hK⟩ := stepK hw hok
    rw [hK.at_] at y4
    have hnl := hK.lt
    have hweb := hok.web
    have hrn := (runOf_some hr).2
    rw [hrn] at y0 hnl hweb
    have hst : Asd (stepOf W r = (actOf W q).Steps[n]) := Asd.mk (by rw [hK.step]; subst hrn; rfl)
    have has := hK.asks
    rw [hst.out] at has
    obtain ⟨vv, hvv⟩ : ∃ v, r.Visits = v := ⟨_, rfl⟩
    rw [hvv] at y5 hvb
    have hvd : decide (vv = 0) = false := by simpa using hvb
    obtain ⟨a, ha2⟩ : ∃ a, actOf W q = a := ⟨_, rfl⟩
    rw [hst.out] at e1
    simp only [ha2] at hnl has e1
    obtain ⟨st, hst2⟩ : ∃ st, a.Steps[n] = st := ⟨_, rfl⟩
    rw [hst2] at has e1
    have hkeep := Asd.mk (show ∀ Z, Below w.heap.size w Z → (Below w.heap.size w Z ∧ Z.cell? ⟨x.b, 4, none⟩ = some (.int .i64 (n : Int))) from fun Z hb => ⟨hb, cell_below hb y4⟩)
    have s_0 : Below w.heap.size w w.drew := (Below.refl _ _).drew
    replace hX := Asd.mk hX
    replace hr := Asd.mk hr
    replace w1 := Asd.mk w1
    replace w2 := Asd.mk w2
    replace hx := Asd.mk hx
    replace hst2 := Asd.mk hst2
    replace ha2 := Asd.mk ha2
    clear hst hK hok hxr hvv hv hrn y0
    go_enter Tryz.func101, Tryz.ntmps101
    go_upto_region 5 with (fail)
    refine wp_region_held_drew (S := fun Z => Below w.heap.size w Z ∧ Z.cell? ⟨x.b, 4, none⟩ = some (.int .i64 (n : Int))) (by kernel_rfl) (hkeep.out _ s_0) (fun hHeld => ?_)
    ((refine wpAnyH_take (i := 0) (v := ?_) rfl (by kernel_rfl) (by kernel_rfl) (by kernel_rfl) (fun _ _ _ h => h) (Or.inl ⟨by rfl, ?_⟩) (by assumption) ?_; rotate_left; (next => ((intro X hX; (try dsimp only at hX); go_simp); try with_reducible rfl))); (try simp only [Act.put, List.getElem_toArray, List.getElem_cons_succ, List.getElem_cons_zero, List.setIfInBounds_toArray, List.set_cons_zero, List.set_cons_succ]); (refine wpAnyH_take (i := 1) (v := ?_) rfl (by kernel_rfl) (by kernel_rfl) (by kernel_rfl) (fun _ _ _ h => h) (Or.inl ⟨by rfl, ?_⟩) (by assumption) ?_; rotate_left; (next => ((intro X hX; (try dsimp only at hX); go_simp); try with_reducible rfl))); (try simp only [Act.put, List.getElem_toArray, List.getElem_cons_succ, List.getElem_cons_zero, List.setIfInBounds_toArray, List.set_cons_zero, List.set_cons_succ]); (refine wpAnyH_take (i := 4) (v := ?_) rfl (by kernel_rfl) (by kernel_rfl) (by kernel_rfl) (fun _ _ _ h => h) (Or.inl ⟨by rfl, ?_⟩) (by assumption) ?_; rotate_left; (next => ((intro X hX; (try dsimp only at hX); go_simp); try with_reducible rfl))); (try simp only [Act.put, List.getElem_toArray, List.getElem_cons_succ, List.getElem_cons_zero, List.setIfInBounds_toArray, List.set_cons_zero, List.set_cons_succ]); (refine wpAnyH_take (i := 5) (v := ?_) rfl (by kernel_rfl) (by kernel_rfl) (by kernel_rfl) (fun _ _ _ h => h) (Or.inl ⟨by rfl, ?_⟩) (by assumption) ?_; rotate_left; (next => ((intro X hX; (try dsimp only at hX); go_simp); try with_reducible rfl))); (try simp only [Act.put, List.getElem_toArray, List.getElem_cons_succ, List.getElem_cons_zero, List.setIfInBounds_toArray, List.set_cons_zero, List.set_cons_succ]); (refine wpAnyH_take (i := 6) (v := ?_) rfl (by kernel_rfl) (by kernel_rfl) (by kernel_rfl) (fun _ _ _ h => h) (Or.inl ⟨by rfl, ?_⟩) (by assumption) ?_; rotate_left; (next => ((intro X hX; (try dsimp only at hX); go_simp); try with_reducible rfl))); (try simp only [Act.put, List.getElem_toArray, List.getElem_cons_succ, List.getElem_cons_zero, List.setIfInBounds_toArray, List.set_cons_zero, List.set_cons_succ]); (refine wpAnyH_take (i := 7) (v := ?_) rfl (by kernel_rfl) (by kernel_rfl) (by kernel_rfl) (fun _ _ _ h => h) (Or.inl ⟨by rfl, ?_⟩) (by assumption) ?_; rotate_left; (next => ((intro X hX; (try dsimp only at hX); go_simp); try with_reducible rfl))); (try simp only [Act.put, List.getElem_toArray, List.getElem_cons_succ, List.getElem_cons_zero, List.setIfInBounds_toArray, List.set_cons_zero, List.set_cons_succ]); (refine wpAnyH_take (i := 12) (v := ?_) rfl (by kernel_rfl) (by kernel_rfl) (by kernel_rfl) (fun _ _ _ h => h) (Or.inl ⟨by rfl, ?_⟩) (by assumption) ?_; rotate_left; (next => ((intro X hX; (try dsimp only at hX); go_simp); try with_reducible rfl))); (try simp only [Act.put, List.getElem_toArray, List.getElem_cons_succ, List.getElem_cons_zero, List.setIfInBounds_toArray, List.set_cons_zero, List.set_cons_succ]))
    (refine wpAnyH_ready (rs := [2]) (by kernel_rfl) (by simp) ?_; refine AllReadyH.cons rfl (fun K hK => ?_) AllReadyH.nil)
    go_simp
    refine (action_calls q _ (hX.out.later (show Below w.heap.size w _ from by repeat (first | (with_reducible exact Below.refl _ _) | (with_reducible exact s_0) | (with_reducible refine below_al ?_ _) | (with_reducible refine below_dr ?_ _) | (with_reducible refine below_d1 ?_) | ((with_reducible refine Below.setCell ?_ ?_ _); rotate_left; (next => first | (simp; done) | (simp; omega) | omega))))) ha.out hn hweb).mono ?_
    rw [ha2.out]
    rintro e' w5 ⟨A5, c5, rfl, _, hst5, hb⟩
    obtain ⟨s_0, s_1⟩ := hkeep.out _ (below_st (show Below w.heap.size w _ from by repeat (first | (with_reducible exact Below.refl _ _) | (with_reducible exact s_0) | (with_reducible refine below_al ?_ _) | (with_reducible refine below_dr ?_ _) | (with_reducible refine below_d1 ?_) | ((with_reducible refine Below.setCell ?_ ?_ _); rotate_left; (next => first | (simp; done) | (simp; omega) | omega)))) hb)
    obtain ⟨ad, c', v0, v2, hv, k0, k1, k2, k3, k4, k5, k6, k7, k8, _⟩ := Step.elem (hst5.below hb) hnl
    cases hv
    have hfs := field_steps a.Cost (some ad) a.Steps.length c5
    rw [hst2.out] at k8
    obtain ⟨A6, c6, rfl, _, _⟩ := rep_len k8
    replace k8 := Asd.mk k8
    clear hb hst5 k1 k2 k3 k4 k5 k6 k7
    refine hK.out _ _ (hkeep.out _ s_0) (fun hHeld => ?_)
    clear hK K
    ((refine wpAnyH_take (i := 3) (v := ?_) rfl (by kernel_rfl) (by kernel_rfl) (by kernel_rfl) (fun _ _ _ h => h) (Or.inl ⟨by rfl, ?_⟩) (by assumption) ?_; rotate_left; (next => ((intro X hX; (try dsimp only at hX); go_simp); try with_reducible rfl))); (try simp only [Act.put, List.getElem_toArray, List.getElem_cons_succ, List.getElem_cons_zero, List.setIfInBounds_toArray, List.set_cons_zero, List.set_cons_succ]); (refine wpAnyH_take (i := 8) (v := ?_) rfl (by kernel_rfl) (by kernel_rfl) (by kernel_rfl) (fun _ _ _ h => h) (Or.inl ⟨by rfl, ?_⟩) (by assumption) ?_; rotate_left; (next => ((intro X hX; (try dsimp only at hX); go_simp); try with_reducible rfl))); (try simp only [Act.put, List.getElem_toArray, List.getElem_cons_succ, List.getElem_cons_zero, List.setIfInBounds_toArray, List.set_cons_zero, List.set_cons_succ]); (refine wpAnyH_take (i := 9) (v := ?_) rfl (by kernel_rfl) (by kernel_rfl) (by kernel_rfl) (fun _ _ _ h => h) (Or.inl ⟨by rfl, ?_⟩) (by assumption) ?_; rotate_left; (next => ((intro X hX; (try dsimp only at hX); go_simp); try with_reducible rfl))); (try simp only [Act.put, List.getElem_toArray, List.getElem_cons_succ, List.getElem_cons_zero, List.setIfInBounds_toArray, List.set_cons_zero, List.set_cons_succ]))
    (refine wpAnyH_ready (rs := [10]) (by kernel_rfl) (by simp) ?_; refine AllReadyH.cons rfl (fun K hK => ?_) AllReadyH.nil)
    go_simp
    refine hK.out _ _ (hkeep.out _ s_0) (fun hHeld => ?_)
    clear hK K
    ((refine wpAnyH_take (i := 11) (v := ?_) rfl (by kernel_rfl) (by kernel_rfl) (by kernel_rfl) (fun _ _ _ h => h) (Or.inl ⟨by rfl, ?_⟩) (by assumption) ?_; rotate_left; (next => ((intro X hX; (try dsimp only at hX); go_simp); try with_reducible rfl))); (try simp only [Act.put, List.getElem_toArray, List.getElem_cons_succ, List.getElem_cons_zero, List.setIfInBounds_toArray, List.set_cons_zero, List.set_cons_succ]))
    refine wpAnyH_done (by kernel_rfl) ?_ _
    obtain ⟨asks, hasks⟩ : ∃ asks, st.Asks = asks := ⟨_, rfl⟩
    rw [hasks] at k8 e1 has ⊢
    have hb5 := Asd.mk s_0
    have z5 := s_0.size
    clear hkeep hfs k0 y4 hHeld s_0 s_1 hst2 hasks y1 y5 hl
    go_upto_region 6 with (fail)
    go_loopw [6, 43] (fun s6 i wr => ∃ k : Nat, k ≤ asks.length ∧ i = .int .i64 k ∧ Lie w5.heap.size wr (strsT 9 (onTo R asks k)) s6 ∧ Below w5.heap.size w5 wr) (fun _ i _ => asks.length - (intOf i).toNat)
    case atStart => exact ⟨0, by omega, rfl, by rw [onTo_zero]; exact Lie.nil _ _ _ _, Below.refl _ _⟩
    case round =>
      obtain ⟨k, hk, rfl, hL, hbr⟩ := hrel
      obtain ⟨Av, cv, rfl, _, _⟩ := hL.slice
      have hlen := onTo_len R asks k
      have hbw := below_st hb5.out hbr
      by_cases hlt : k < asks.length
      · obtain ⟨aa, c', he', hcell⟩ := str_elem (k8.out.below hbr) hlt
        cases he'
        have hXr := Asd.mk (hX.out.later hbw)
        have x0 := cell_below hbw c0
        have x2 := cell_below hbw c2
        have hzr := hbr.size
        obtain ⟨y, hy⟩ : ∃ y, asks[k] = y := ⟨_, rfl⟩
        have hyes := Asd.mk (fun h => onTo_yes (R := R) hlt h)
        have hno := Asd.mk (fun h => onTo_no (R := R) hlt h)
        rw [hy] at hcell hyes hno
        replace hL := Asd.mk hL
        replace hbr := Asd.mk hbr
        replace hbw := Asd.mk hbw
        replace hy := Asd.mk hy
        cases hry : runOf R y with
        | none =>
          have e2 := Asd.mk (hno.out (isOn_none hry))
          have hl := hXr.out.run_none hry
          clear hyes hno hry
          go_wp2
          go_roundw
          case rel => exact ⟨k + 1, by omega, by go_num, by rw [e2.out]; exact hL.out, hbr.out⟩
          case measure => simp [intOf]; omega
        | some r2 =>
          obtain ⟨x2e, hx2, hxr2, hl⟩ := hXr.out.run_some hry
          have hRb := (hXr.out.runs x2e hx2).1
          rw [hxr2] at hRb
          have y1 : wr.cell? ⟨x2e.b, 1, none⟩ = some (.bool r2.Over) := cellOf hRb (i := 1) rfl
          have hon := isOn_some hry
          clear hRb
          cases ho2 : r2.Over with
          | true =>
            rw [ho2] at y1 hon
            have e2 := Asd.mk (hno.out hon)
            clear hyes hno hry hxr2 hon ho2
            go_wp2
            go_roundw
            case rel => exact ⟨k + 1, by omega, by go_num, by rw [e2.out]; exact hL.out, hbr.out⟩
            case measure => simp [intOf]; omega
          | false =>
            rw [ho2] at y1 hon
            have e2 := Asd.mk (hyes.out hon)
            clear hyes hno hry hxr2 hon ho2
            go_wp2_with (at_builtin; refine appStr rfl rfl rfl (lo := w5.heap.size) (wr := wr) hzr hL.out (by repeat (first | (with_reducible exact Below.refl _ _) | (with_reducible exact Below.refl _ _) | (with_reducible refine below_al ?_ _) | (with_reducible refine below_dr ?_ _) | (with_reducible refine below_d1 ?_) | ((with_reducible refine Below.setCell ?_ ?_ _); rotate_left; (next => first | (simp; done) | (simp; omega) | omega)))) rfl (heap_alloc_new _ _) (by omega) ?_)
            intro v7 w7 hL7 hF7
            obtain ⟨A7, d7, rfl, _, _⟩ := hL7.slice
            have hb7 := Asd.mk (Far.trans (show Below w5.heap.size w5 _ from by repeat (first | (with_reducible exact Below.refl _ _) | (with_reducible exact hbr.out) | (with_reducible refine below_al ?_ _) | (with_reducible refine below_dr ?_ _) | (with_reducible refine below_d1 ?_) | ((with_reducible refine Below.setCell ?_ ?_ _); rotate_left; (next => first | (simp; done) | (simp; omega) | omega)))) hF7 (Nat.le_refl _) (by simp; omega))
            replace hL7 := Asd.mk hL7
            clear hF7
            go_wp2
            go_roundw
            case rel => exact ⟨k + 1, by omega, by go_num, by rw [e2.out]; exact hL7.out, hb7.out⟩
            case measure => simp [intOf]; omega
      · obtain rfl : k = asks.length := by omega
        have e2 := Asd.mk (show onTo R asks asks.length = waitsRaw W R q by rw [e1.out]; exact onTo_end R asks)
        rw [e2.out] at hL hlen ⊢
        obtain ⟨Fo, o1, n1, l1⟩ := hL
        replace hbw := Asd.mk hbw
        clear hbr
        go_wp2_with fail
        refine (Strings_calls _ (waitsL W R q) _ Fo _ o1 (nodup_perm_insS w2.out) (waits_asc _ _ _) (by omega)).mono ?_
        rintro e' w7 ⟨rfl, o2, hm⟩
        have hb7 := Asd.mk (MFr.upon hm hbw.out (Nat.le_refl _) (fun b hb => by have := l1 b hb; omega))
        clear hm o1
        replace o2 := Asd.mk o2
        replace l1 := Asd.mk l1
        go_wp2
        go_ret
        exact ⟨_, rfl, ⟨Fo, o2.out, n1, fun k hk => by have := l1.out k hk; omega⟩, hb7.out⟩
end Go.Proofs.YtkpkfihaihoaeaaGreatDoor.M
end
section
set_option linter.unusedVariables false
set_option linter.unusedSimpArgs false
namespace Go.Proofs.YtkpkfihaihoaeaaGreatDoor.M
open Go.RowKit
theorem Lie.emptyB (w : World) (e sz : Nat) {b : Nat} (hb : w.heap.size = b) : Lie w.heap.size (w.alloc (.cells #[] e)) (.l e sz 0 []) (.slice (some ⟨b, 0, none⟩) 0 0) := hb ▸ Lie.empty w e sz
theorem own_lit1 (w : World) (q : ByteArray) : own (w.alloc (.cells #[.string q] 9)) (strsT 9 [q]) (.slice (some ⟨w.heap.size, 0, none⟩) 1 1) [w.heap.size] := by
  simp only [strsT, tl, own]
  refine .inl ⟨[.string q], [], World.ownsRow_lit w #[.string q] 1 (Nat.zero_le _) (by decide) rfl, by simp [owns, strC, own], by simp [Value.ownBlock], fun k _ hk => by cases hk⟩
theorem Lie.lit1 (w : World) (q : ByteArray) : Lie w.heap.size (w.alloc (.cells #[.string q] 9)) (strsT 9 [q]) (.slice (some ⟨w.heap.size, 0, none⟩) 1 1) := ⟨_, own_lit1 w q, by simp, by simp⟩
/-- append of one string onto texts of one's own -/
theorem appG {w : World} {ops : Array Oper} {rest : List Oper} {o : Oper} {a : Act} {Q : Exit → Act → World → Prop} (hgd : o.guard = none) {s x : Operand} {t : TypeId} (ho : o.op = .call { callee := .builtin .append, args := #[s, x], argTypes := #[t, t] }) {by_ : Nat} {z : Value} (ht : Tryz.prog.underlying t = some (.slice 9))
    (hi : (Tryz.prog.info? 9).map (fun i => (i.zero, i.size, i.bytes)) = some (some z, 1, by_)) (hzs : z.cells.size = 1) {v : Value} (hs : a.eval s = v) {xs : List ByteArray} {q : ByteArray} {F : List Nat} (hown : own w (strsT 9 xs) v F)
    {B : Nat} (hx : a.eval x = .slice (some ⟨B, 0, none⟩) 1 1) {ty : TypeId} {fr : Nat × Nat} (hB : w.heap[B]? = some (.cells #[.string q] ty fr)) (h63 : xs.length + 1 ≤ maxLen) (hbytes : (xs.length + 1) * by_ ≤ 140737488355328)
    (h : ∀ v' w' F2, own w' (strsT 9 (xs ++ [q])) v' F2 → (∀ k ∈ F2, k ∈ F ∨ k = w.heap.size) → (F.Nodup → F2.Nodup) → MFr F w w' → wpList Tryz.prog ops Q rest (a.put o.dst v') w') :
    wpList Tryz.prog ops Q (o :: rest) a w := by
  refine wpList_plain hgd fun K hK => ?_
  have hq : owns w [T.s q] [.string q] [] := by simp [owns, own]
  obtain ⟨v', w', F2, hr, h2, h3, h4, _, row, h6, h7⟩ := run_app (P := Tryz.prog) (w := w) t o.type ht hi hzs (by decide) (m := 1) (c := 1) (A := some ⟨B, 0, none⟩) hown (fun h => by cases h) (fun _ => ⟨_, rfl, fun j u hj => World.news_of_block hB j u (by simpa using hj)⟩) rfl hq (fun k _ _ hk => by cases hk) h63 hbytes
  unfold Oper.wp execOp
  simp only [ho, resolve, invoke, builtin, Sem.run_bind, Sem.run_pure, Result.andThen_ok, List.map_toArray, List.map_cons, List.map_nil, hs, hx, hr]
  exact hK _ _ (h v' w' F2 (by rw [strsT_snoc]; exact h2) (fun k hk => (h3 k hk).elim .inl (fun h => h.elim (fun h => by cases h) .inr)) (fun hn => h4 hn List.nodup_nil (fun k hk => by cases hk)) ⟨h6.os, h6.tape, h6.output, h6.size, fun b hb hbn => h6.block b hb (fun he => hbn (h7 b he.symm))⟩)
end Go.Proofs.YtkpkfihaihoaeaaGreatDoor.M
end
section
set_option linter.unusedVariables false
set_option linter.unusedSimpArgs false
namespace Go.Proofs.YtkpkfihaihoaeaaGreatDoor.M
open Go.RowKit
theorem insS_snoc (l : List ByteArray) (x : ByteArray) : insS (l ++ [x]) = ins1 (insS l) x := by unfold insS; rw [List.foldl_append]; rfl
theorem insS_len (l : List ByteArray) : (insS l).length ≤ l.length := by
  have key : ∀ (l a : List ByteArray), (l.foldl ins1 a).length ≤ a.length + l.length := by
    intro l
    induction l with
    | nil => intro a; simp
    | cons x l ih =>
      intro a
      have h1 := ih (ins1 a x)
      have h2 := ins1_len x a
      simp only [List.foldl_cons, List.length_cons]; omega
  simpa [insS] using key l []
set_option maxRecDepth 100000 in
set_option maxHeartbeats 8000000 in
theorem l6Waits_calls {t tN tS tC : Nat} (W : Web) (x : State) (q : ByteArray) (w : World) {us vs : List Value} (hW : reps w (W.c tN tS tC) us) (h : reps w (State.c t x) vs) (hw : checkWeb W = 0) (hI : Inv W x.Runs) :
    Calls Tryz.prog 100 #[.agg us.toArray, .agg vs.toArray, .string q] w (MadeV w (strsT 9 (waitsL W x.Runs q))) := by
  obtain ⟨v0, rfl, h0⟩ := Web.ropen hW
  obtain ⟨A, c, rfl, _, _⟩ := rep_len h0
  obtain ⟨u0, u1, rfl, g0, g1⟩ := State.ropen h
  obtain ⟨D, k, rfl, _, _⟩ := rep_len g0
  obtain ⟨B, d, rfl, _, _⟩ := rep_len g1
  replace h0 := Asd.mk h0
  replace g1 := Asd.mk g1
  replace hW := Asd.mk hW
  replace h := Asd.mk h
  clear g0
  have hRl : x.Runs.length ≤ 60 := by have := hI.length hw; have := (checkWeb_ok hw).1; omega
  have hI0 := Asd.mk hI
  go_enter Tryz.func100, Tryz.ntmps100
  go_upto_region 2 with (fail)
  obtain ⟨X, eX⟩ : ∃ X : World, X = ((w.alloc (.cells #[.slice A W.Nodes.length c] 34)).alloc (.cells #[.slice D x.Roots.length k, .slice B x.Runs.length d] 38)).alloc (.cells #[] 9) := ⟨_, rfl⟩
  rw [← eX]
  have hbX := Asd.mk (show Below w.heap.size w X from eX ▸ by repeat (first | (with_reducible exact Below.refl _ _) | (with_reducible exact Below.refl _ _) | (with_reducible refine below_al ?_ _) | (with_reducible refine below_dr ?_ _) | (with_reducible refine below_d1 ?_) | ((with_reducible refine Below.setCell ?_ ?_ _); rotate_left; (next => first | (simp; done) | (simp; omega) | omega))))
  have a0 : X.cell? ⟨w.heap.size, 0, none⟩ = some (.slice A W.Nodes.length c) := by rw [eX]; go_simp
  have b0 : X.cell? ⟨w.heap.size + 1, 0, none⟩ = some (.slice D x.Roots.length k) := by rw [eX]; go_simp
  have b1 : X.cell? ⟨w.heap.size + 1, 1, none⟩ = some (.slice B x.Runs.length d) := by rw [eX]; go_simp
  have zX : w.heap.size + 1 < X.heap.size := by rw [eX]; simp
  have hE := Asd.mk (show Lie w.heap.size X (strsT 9 []) (.slice (some ⟨w.heap.size + 1 + 1, 0, none⟩) 0 0) from eX ▸ (Lie.emptyB ((w.alloc (.cells #[.slice A W.Nodes.length c] 34)).alloc (.cells #[.slice D x.Roots.length k, .slice B x.Runs.length d] 38)) 9 1 (by simp)).mono (show w.heap.size ≤ ((w.alloc _).alloc _).heap.size by simp; omega))
  clear eX
  go_wp2_with fail
  refine (l4At_calls x q _ (h.out.below hbX.out)).mono ?_
  obtain ⟨tq, htq⟩ : ∃ tq, atR x.Runs q = tq := ⟨_, rfl⟩
  rw [htq]
  rintro e' w3 ⟨rfl, hb⟩
  replace a0 := cell_below hb a0
  replace b0 := cell_below hb b0
  replace b1 := cell_below hb b1
  have hb3 := Asd.mk (below_st hbX.out hb)
  have hE3 := Asd.mk (hE.out.below hb)
  have zX3 : w.heap.size + 1 < w3.heap.size := by have := hb.size; omega
  clear hb
  cases hr : runOf x.Runs q with
  | none =>
    have e1 := Asd.mk (waits_none (W := W) hr)
    obtain rfl : tq = -1 := by rw [← htq]; exact atR_none hr
    clear hr htq
    go_wp2
    go_ret
    rw [e1.out]
    exact ⟨_, rfl, hE3.out.made, hb3.out⟩
  | some r =>
    obtain ⟨ir, hir, hM, hri⟩ := atR_some hr
    obtain rfl : tq = (ir : Int) := by rw [← htq]; exact hM
    obtain ⟨ax, cx, v6, he, k0, k1, k2, k3, k4, k5, k6, _, _⟩ := Run.elem (g1.out.below hb3.out) hir
    cases he
    rw [hri] at k0 k1 k2 k3 k4 k5
    have hz : (ir : Int) < (x.Runs.length : Int) := by omega
    clear k0 k2 k3 k6 hM htq hri
    by_cases ho : r.Over = true
    · have e1 := Asd.mk (waits_no (W := W) hr (by rw [ho]; rfl))
      rw [ho] at k1
      clear hr k4 k5
      go_wp2
      go_ret
      rw [e1.out]
      exact ⟨_, rfl, hE3.out.made, hb3.out⟩
    replace ho := Bool.eq_false_iff.2 ho
    rw [ho] at k1
    by_cases hv : r.Visits = 0
    · have e1 := Asd.mk (waits_no (W := W) hr (by rw [ho, hv]; rfl))
      rw [hv] at k5
      clear hr k4
      go_wp2
      go_ret
      rw [e1.out]
      exact ⟨_, rfl, hE3.out.made, hb3.out⟩
    have hvb : (r.Visits == 0) = false := by simp [hv]
    have e1 := Asd.mk (waits_raw (W := W) hr (by rw [ho, hvb]; rfl))
    obtain ⟨_, wnd⟩ := waits_len hw hI q
    have hok := hI.ok r (runOf_some hr).1
    obtain ⟨n, hK⟩ := stepK hw hok
    rw [hK.at_] at k4
    have hrn := (runOf_some hr).2
    have hnl := hK.lt
    have hweb := hok.web
    rw [hrn] at hnl hweb
    have hst : Asd (stepOf W r = (actOf W q).Steps[n]) := Asd.mk (by rw [hK.step]; subst hrn; rfl)
    have has := hK.asks
    rw [hst.out] at has
    rw [hst.out] at e1
    obtain ⟨na, hna, hN1, hN2⟩ := node_atN hweb
    obtain ⟨a, ha⟩ : ∃ a, actOf W q = a := ⟨_, rfl⟩
    rw [ha] at hN2
    simp only [ha] at hnl has e1
    obtain ⟨ad, c', v2, hvv, _, _, n2, n3, _⟩ := Node.elem (h0.out.below hb3.out) hna
    cases hvv
    rw [hN2] at n3
    obtain ⟨A2, c2, rfl, _, _⟩ := rep_len n3
    obtain ⟨ad2, c3, w0, w2, hvv, m0, _, _, _, _, _, _, _, m8, _⟩ := Step.elem n3 hnl
    cases hvv
    obtain ⟨asks, hasks⟩ : ∃ asks, a.Steps[n].Asks = asks := ⟨_, rfl⟩
    rw [hasks] at has e1 m8
    obtain ⟨A6, c6, rfl, _, _⟩ := rep_len m8
    obtain ⟨vv, hvw⟩ : ∃ vv, r.Visits = vv := ⟨_, rfl⟩
    rw [hvw] at k5 hvb
    have hvd : decide (vv = 0) = false := by simpa using hvb
    replace m8 := Asd.mk m8
    replace hN1 := Asd.mk hN1
    replace hN2 := Asd.mk hN2
    have hnai : (na : Int) < (W.Nodes.length : Int) := by omega
    have hnli : (n : Int) < (a.Steps.length : Int) := by omega
    clear n3 hst hK hok hrn hvw hv hr ha hweb wnd hasks
    go_upto_region 5 with (fail)
    obtain ⟨Z, eZ⟩ : ∃ Z : World, Z = w3 := ⟨_, rfl⟩
    rw [← eZ] at a0 b0 b1 hb3 hE3 zX3 k1 k4 k5 n2 m0 m8 ⊢
    clear eZ
    have hkeep := Asd.mk (show ∀ Y, Below Z.heap.size Z Y → (Below Z.heap.size Z Y ∧ Y.cell? ⟨w.heap.size, 0, none⟩ = some (.slice (some ad) W.Nodes.length c) ∧ Y.cell? ⟨w.heap.size + 1, 1, none⟩ = some (.slice (some ax) x.Runs.length d) ∧ Y.cell? ⟨(ax.add (ir * 7)).block, (ax.add (ir * 7)).off + 4, none⟩ = some (.int .i64 (n : Int)) ∧ Y.cell? ⟨(ad.add (na * 3)).block, (ad.add (na * 3)).off + 2, none⟩ = some (.slice (some ad2) a.Steps.length c2) ∧ Y.cell? (ad2.add (n * 8)) = some (.slice A6 asks.length c6)) from fun Y hb => ⟨hb, cell_below hb a0, cell_below hb b1, cell_below hb k4, cell_below hb n2, cell_below hb m0⟩)
    have s_0 : Below Z.heap.size Z Z.drew := (Below.refl _ _).drew
    refine wp_region_held_drew (S := fun Y => Below Z.heap.size Z Y ∧ Y.cell? ⟨w.heap.size, 0, none⟩ = some (.slice (some ad) W.Nodes.length c) ∧ Y.cell? ⟨w.heap.size + 1, 1, none⟩ = some (.slice (some ax) x.Runs.length d) ∧ Y.cell? ⟨(ax.add (ir * 7)).block, (ax.add (ir * 7)).off + 4, none⟩ = some (.int .i64 (n : Int)) ∧ Y.cell? ⟨(ad.add (na * 3)).block, (ad.add (na * 3)).off + 2, none⟩ = some (.slice (some ad2) a.Steps.length c2) ∧ Y.cell? (ad2.add (n * 8)) = some (.slice A6 asks.length c6)) (by kernel_rfl) (hkeep.out _ s_0) (fun hHeld => ?_)
    ((refine wpAnyH_take (i := 0) (v := ?_) rfl (by kernel_rfl) (by kernel_rfl) (by kernel_rfl) (fun _ _ _ h => h) (Or.inl ⟨by rfl, ?_⟩) (by assumption) ?_; rotate_left; (next => ((intro X hX; (try dsimp only at hX); go_simp); try with_reducible rfl))); (try simp only [Act.put, List.getElem_toArray, List.getElem_cons_succ, List.getElem_cons_zero, List.setIfInBounds_toArray, List.set_cons_zero, List.set_cons_succ]); (refine wpAnyH_take (i := 1) (v := ?_) rfl (by kernel_rfl) (by kernel_rfl) (by kernel_rfl) (fun _ _ _ h => h) (Or.inl ⟨by rfl, ?_⟩) (by assumption) ?_; rotate_left; (next => ((intro X hX; (try dsimp only at hX); go_simp); try with_reducible rfl))); (try simp only [Act.put, List.getElem_toArray, List.getElem_cons_succ, List.getElem_cons_zero, List.setIfInBounds_toArray, List.set_cons_zero, List.set_cons_succ]); (refine wpAnyH_take (i := 2) (v := ?_) rfl (by kernel_rfl) (by kernel_rfl) (by kernel_rfl) (fun _ _ _ h => h) (Or.inl ⟨by rfl, ?_⟩) (by assumption) ?_; rotate_left; (next => ((intro X hX; (try dsimp only at hX); go_simp); try with_reducible rfl))); (try simp only [Act.put, List.getElem_toArray, List.getElem_cons_succ, List.getElem_cons_zero, List.setIfInBounds_toArray, List.set_cons_zero, List.set_cons_succ]); (refine wpAnyH_take (i := 3) (v := ?_) rfl (by kernel_rfl) (by kernel_rfl) (by kernel_rfl) (fun _ _ _ h => h) (Or.inl ⟨by rfl, ?_⟩) (by assumption) ?_; rotate_left; (next => ((intro X hX; (try dsimp only at hX); go_simp); try with_reducible rfl))); (try simp only [Act.put, List.getElem_toArray, List.getElem_cons_succ, List.getElem_cons_zero, List.setIfInBounds_toArray, List.set_cons_zero, List.set_cons_succ]); (refine wpAnyH_take (i := 9) (v := ?_) rfl (by kernel_rfl) (by kernel_rfl) (by kernel_rfl) (fun _ _ _ h => h) (Or.inl ⟨by rfl, ?_⟩) (by assumption) ?_; rotate_left; (next => ((intro X hX; (try dsimp only at hX); go_simp); try with_reducible rfl))); (try simp only [Act.put, List.getElem_toArray, List.getElem_cons_succ, List.getElem_cons_zero, List.setIfInBounds_toArray, List.set_cons_zero, List.set_cons_succ]); (refine wpAnyH_take (i := 10) (v := ?_) rfl (by kernel_rfl) (by kernel_rfl) (by kernel_rfl) (fun _ _ _ h => h) (Or.inl ⟨by rfl, ?_⟩) (by assumption) ?_; rotate_left; (next => ((intro X hX; (try dsimp only at hX); go_simp); try with_reducible rfl))); (try simp only [Act.put, List.getElem_toArray, List.getElem_cons_succ, List.getElem_cons_zero, List.setIfInBounds_toArray, List.set_cons_zero, List.set_cons_succ]); (refine wpAnyH_take (i := 11) (v := ?_) rfl (by kernel_rfl) (by kernel_rfl) (by kernel_rfl) (fun _ _ _ h => h) (Or.inl ⟨by rfl, ?_⟩) (by assumption) ?_; rotate_left; (next => ((intro X hX; (try dsimp only at hX); go_simp); try with_reducible rfl))); (try simp only [Act.put, List.getElem_toArray, List.getElem_cons_succ, List.getElem_cons_zero, List.setIfInBounds_toArray, List.set_cons_zero, List.set_cons_succ]); (refine wpAnyH_take (i := 12) (v := ?_) rfl (by kernel_rfl) (by kernel_rfl) (by kernel_rfl) (fun _ _ _ h => h) (Or.inl ⟨by rfl, ?_⟩) (by assumption) ?_; rotate_left; (next => ((intro X hX; (try dsimp only at hX); go_simp); try with_reducible rfl))); (try simp only [Act.put, List.getElem_toArray, List.getElem_cons_succ, List.getElem_cons_zero, List.setIfInBounds_toArray, List.set_cons_zero, List.set_cons_succ]); (refine wpAnyH_take (i := 13) (v := ?_) rfl (by kernel_rfl) (by kernel_rfl) (by kernel_rfl) (fun _ _ _ h => h) (Or.inl ⟨by rfl, ?_⟩) (by assumption) ?_; rotate_left; (next => ((intro X hX; (try dsimp only at hX); go_simp); try with_reducible rfl))); (try simp only [Act.put, List.getElem_toArray, List.getElem_cons_succ, List.getElem_cons_zero, List.setIfInBounds_toArray, List.set_cons_zero, List.set_cons_succ]); (refine wpAnyH_take (i := 14) (v := ?_) rfl (by kernel_rfl) (by kernel_rfl) (by kernel_rfl) (fun _ _ _ h => h) (Or.inl ⟨by rfl, ?_⟩) (by assumption) ?_; rotate_left; (next => ((intro X hX; (try dsimp only at hX); go_simp); try with_reducible rfl))); (try simp only [Act.put, List.getElem_toArray, List.getElem_cons_succ, List.getElem_cons_zero, List.setIfInBounds_toArray, List.set_cons_zero, List.set_cons_succ]))
    (refine wpAnyH_ready (rs := [4]) (by kernel_rfl) (by simp) ?_; refine AllReadyH.cons rfl (fun K hK => ?_) AllReadyH.nil)
    go_simp
    refine (l2At_calls W q _ (Web.rmk W (h0.out.below (below_st hb3.out (show Below Z.heap.size Z _ from by repeat (first | (with_reducible exact Below.refl _ _) | (with_reducible exact s_0) | (with_reducible refine below_al ?_ _) | (with_reducible refine below_dr ?_ _) | (with_reducible refine below_d1 ?_) | ((with_reducible refine Below.setCell ?_ ?_ _); rotate_left; (next => first | (simp; done) | (simp; omega) | omega)))))))).mono ?_
    rw [hN1.out]
    rintro e' w6 ⟨rfl, hb⟩
    have hb6 := Asd.mk (below_st (show Below Z.heap.size Z _ from by repeat (first | (with_reducible exact Below.refl _ _) | (with_reducible exact s_0) | (with_reducible refine below_al ?_ _) | (with_reducible refine below_dr ?_ _) | (with_reducible refine below_d1 ?_) | ((with_reducible refine Below.setCell ?_ ?_ _); rotate_left; (next => first | (simp; done) | (simp; omega) | omega)))) hb)
    clear hb s_0
    have s_0 := hb6.out
    refine hK.out _ _ (hkeep.out _ s_0) (fun hHeld => ?_)
    clear hK K
    ((refine wpAnyH_take (i := 5) (v := ?_) rfl (by kernel_rfl) (by kernel_rfl) (by kernel_rfl) (fun _ _ _ h => h) (Or.inl ⟨by rfl, ?_⟩) (by assumption) ?_; rotate_left; (next => ((intro X hX; (try dsimp only at hX); go_simp); try with_reducible rfl))); (try simp only [Act.put, List.getElem_toArray, List.getElem_cons_succ, List.getElem_cons_zero, List.setIfInBounds_toArray, List.set_cons_zero, List.set_cons_succ]); (refine wpAnyH_take (i := 6) (v := ?_) rfl (by kernel_rfl) (by kernel_rfl) (by kernel_rfl) (fun _ _ _ h => h) (Or.inl ⟨by rfl, ?_⟩) (by assumption) ?_; rotate_left; (next => ((intro X hX; (try dsimp only at hX); go_simp); try with_reducible rfl))); (try simp only [Act.put, List.getElem_toArray, List.getElem_cons_succ, List.getElem_cons_zero, List.setIfInBounds_toArray, List.set_cons_zero, List.set_cons_succ]); (refine wpAnyH_take (i := 7) (v := ?_) rfl (by kernel_rfl) (by kernel_rfl) (by kernel_rfl) (fun _ _ _ h => h) (Or.inl ⟨by rfl, ?_⟩) (by assumption) ?_; rotate_left; (next => ((intro X hX; (try dsimp only at hX); go_simp); try with_reducible rfl))); (try simp only [Act.put, List.getElem_toArray, List.getElem_cons_succ, List.getElem_cons_zero, List.setIfInBounds_toArray, List.set_cons_zero, List.set_cons_succ]); (refine wpAnyH_take (i := 8) (v := ?_) rfl (by kernel_rfl) (by kernel_rfl) (by kernel_rfl) (fun _ _ _ h => h) (Or.inl ⟨by rfl, ?_⟩) (by assumption) ?_; rotate_left; (next => ((intro X hX; (try dsimp only at hX); go_simp); try with_reducible rfl))); (try simp only [Act.put, List.getElem_toArray, List.getElem_cons_succ, List.getElem_cons_zero, List.setIfInBounds_toArray, List.set_cons_zero, List.set_cons_succ]); (refine wpAnyH_take (i := 15) (v := ?_) rfl (by kernel_rfl) (by kernel_rfl) (by kernel_rfl) (fun _ _ _ h => h) (Or.inl ⟨by rfl, ?_⟩) (by assumption) ?_; rotate_left; (next => ((intro X hX; (try dsimp only at hX); go_simp); try with_reducible rfl))); (try simp only [Act.put, List.getElem_toArray, List.getElem_cons_succ, List.getElem_cons_zero, List.setIfInBounds_toArray, List.set_cons_zero, List.set_cons_succ]); (refine wpAnyH_take (i := 16) (v := ?_) rfl (by kernel_rfl) (by kernel_rfl) (by kernel_rfl) (fun _ _ _ h => h) (Or.inl ⟨by rfl, ?_⟩) (by assumption) ?_; rotate_left; (next => ((intro X hX; (try dsimp only at hX); go_simp); try with_reducible rfl))); (try simp only [Act.put, List.getElem_toArray, List.getElem_cons_succ, List.getElem_cons_zero, List.setIfInBounds_toArray, List.set_cons_zero, List.set_cons_succ]); (refine wpAnyH_take (i := 17) (v := ?_) rfl (by kernel_rfl) (by kernel_rfl) (by kernel_rfl) (fun _ _ _ h => h) (Or.inl ⟨by rfl, ?_⟩) (by assumption) ?_; rotate_left; (next => ((intro X hX; (try dsimp only at hX); go_simp); try with_reducible rfl))); (try simp only [Act.put, List.getElem_toArray, List.getElem_cons_succ, List.getElem_cons_zero, List.setIfInBounds_toArray, List.set_cons_zero, List.set_cons_succ]); (refine wpAnyH_take (i := 18) (v := ?_) rfl (by kernel_rfl) (by kernel_rfl) (by kernel_rfl) (fun _ _ _ h => h) (Or.inl ⟨by rfl, ?_⟩) (by assumption) ?_; rotate_left; (next => ((intro X hX; (try dsimp only at hX); go_simp); try with_reducible rfl))); (try simp only [Act.put, List.getElem_toArray, List.getElem_cons_succ, List.getElem_cons_zero, List.setIfInBounds_toArray, List.set_cons_zero, List.set_cons_succ]))
    refine wpAnyH_done (by kernel_rfl) ?_ _
    have hb5 := Asd.mk (below_st hb3.out hb6.out)
    replace b0 := cell_below hb6.out b0
    replace b1 := cell_below hb6.out b1
    replace m8 := Asd.mk (m8.out.below hb6.out)
    replace hE3 := Asd.mk (hE3.out.below hb6.out)
    have zX6 : w.heap.size + 1 < w6.heap.size := by have := hb6.out.size; omega
    clear hkeep hHeld s_0 a0 k1 k4 k5 n2 m0
    go_upto_region 6 with (fail)
    obtain ⟨Y, eY⟩ : ∃ Y : World, Y = w6 := ⟨_, rfl⟩
    rw [← eY] at hb5 b0 b1 m8 hE3 zX6 ⊢
    clear eY hb6
    go_wp2
    go_loopw [7, 10] (fun s7 i wr => ∃ kk : Nat, kk ≤ asks.length ∧ i = .int .i64 kk ∧ Lie w.heap.size wr (strsT 9 (insS (onTo x.Runs asks kk))) s7 ∧ Below Y.heap.size Y wr) (fun _ i _ => asks.length - (intOf i).toNat)
    case atStart => exact ⟨0, by omega, rfl, by rw [onTo_zero]; exact hE3.out, Below.refl _ _⟩
    case round =>
      obtain ⟨kk, hk, rfl, hL, hbr⟩ := hrel
      obtain ⟨Av, cv, rfl, _, _⟩ := hL.slice
      have hlen := onTo_len x.Runs asks kk
      have hlen2 := insS_len (onTo x.Runs asks kk)
      have hbw := below_st hb5.out hbr
      by_cases hlt : kk < asks.length
      · obtain ⟨aa, c', he', hcell⟩ := str_elem (m8.out.below hbr) hlt
        cases he'
        have b0r := cell_below hbr b0
        have b1r := cell_below hbr b1
        have hzr := hbr.size
        obtain ⟨y, hy⟩ : ∃ y, asks[kk] = y := ⟨_, rfl⟩
        have hyes := Asd.mk (fun h => onTo_yes (R := x.Runs) hlt h)
        have hno := Asd.mk (fun h => onTo_no (R := x.Runs) hlt h)
        rw [hy] at hcell hyes hno
        replace hL := Asd.mk hL
        replace hbr := Asd.mk hbr
        replace hbw := Asd.mk hbw
        replace hy := Asd.mk hy
        go_upto_region 9 with (fail)
        go_still_tail 5, (by kernel_rfl)
        change wpList _ _ _ _ _ wr.drew
        go_wp2_with fail
        refine (l4At_calls x y _ (h.out.below (hbw.out.trans ((show Below wr.heap.size wr _ from by repeat (first | (with_reducible exact Below.refl _ _) | (with_reducible exact Below.refl _ _) | (with_reducible refine below_al ?_ _) | (with_reducible refine below_dr ?_ _) | (with_reducible refine below_d1 ?_) | ((with_reducible refine Below.setCell ?_ ?_ _); rotate_left; (next => first | (simp; done) | (simp; omega) | omega)))).mono hbw.out.size)))).mono ?_
        obtain ⟨ty, hty⟩ : ∃ ty, atR x.Runs y = ty := ⟨_, rfl⟩
        rw [hty]
        rintro e' w7 ⟨rfl, hb⟩
        have hb7 := Asd.mk (below_st (show Below wr.heap.size wr _ from by repeat (first | (with_reducible exact Below.refl _ _) | (with_reducible exact Below.refl _ _) | (with_reducible refine below_al ?_ _) | (with_reducible refine below_dr ?_ _) | (with_reducible refine below_d1 ?_) | ((with_reducible refine Below.setCell ?_ ?_ _); rotate_left; (next => first | (simp; done) | (simp; omega) | omega)))) hb)
        replace b0r := cell_below hb7.out b0r
        replace b1r := cell_below hb7.out b1r
        replace hcell := cell_below hb7.out hcell
        have hL7 := Asd.mk (hL.out.below hb7.out)
        have hb7Y := Asd.mk (below_st hbr.out hb7.out)
        clear hb
        cases hry : runOf x.Runs y with
        | none =>
          have e2 := Asd.mk (hno.out (isOn_none hry))
          obtain rfl : ty = -1 := by rw [← hty]; exact atR_none hry
          clear hyes hno hry hty
          go_wp2
          go_roundw
          case rel => exact ⟨kk + 1, by omega, by go_num, by rw [e2.out]; exact hL7.out, hb7Y.out⟩
          case measure => simp [intOf]; omega
        | some r2 =>
          obtain ⟨iy, hiy, hMy, hyi⟩ := atR_some hry
          obtain rfl : ty = (iy : Int) := by rw [← hty]; exact hMy
          obtain ⟨ay, cy, v7, he, _, k1, _⟩ := Run.elem (g1.out.below (hbw.out.trans (hb7.out.mono hbw.out.size))) hiy
          cases he
          rw [hyi] at k1
          have hzy : (iy : Int) < (x.Runs.length : Int) := by omega
          have hzy0 : decide ((0 : Int) ≤ (iy : Int)) = true := by simp
          have hon := isOn_some hry
          clear hMy hty hyi
          cases ho2 : r2.Over with
          | true =>
            rw [ho2] at k1 hon
            have e2 := Asd.mk (hno.out hon)
            clear hyes hno hry hon ho2
            go_wp2
            go_roundw
            case rel => exact ⟨kk + 1, by omega, by go_num, by rw [e2.out]; exact hL7.out, hb7Y.out⟩
            case measure => simp [intOf]; omega
          | false =>
            rw [ho2] at k1 hon
            have e2 := Asd.mk (hyes.out hon)
            clear hyes hno hry hon ho2
            go_wp2_with fail
            refine (l6Put_calls _ y _ _ (hL7.out.rep.below (by repeat (first | (with_reducible exact Below.refl _ _) | (with_reducible exact Below.refl _ _) | (with_reducible refine below_al ?_ _) | (with_reducible refine below_dr ?_ _) | (with_reducible refine below_d1 ?_) | ((with_reducible refine Below.setCell ?_ ?_ _); rotate_left; (next => first | (simp; done) | (simp; omega) | omega))))) (by omega)).mono ?_
            rintro e' w9 ⟨v9, rfl, hb, hv9⟩
            have hb79 : Below w7.heap.size w7 w9 := by repeat (first | (with_reducible exact Below.refl _ _) | (with_reducible exact hb) | (with_reducible refine below_al ?_ _) | (with_reducible refine below_dr ?_ _) | (with_reducible refine below_d1 ?_) | ((with_reducible refine Below.setCell ?_ ?_ _); rotate_left; (next => first | (simp; done) | (simp; omega) | omega)))
            have hL9 : Asd (Lie w.heap.size w9 (strsT 9 (insS (onTo x.Runs asks (kk + 1)))) v9) := Asd.mk (by
              rw [e2.out, insS_snoc]
              rcases hv9 with ⟨rfl, h1⟩ | h1
              · rw [h1]; exact hL7.out.below hb79
              · exact h1.lie.mono (Nat.le_trans hbw.out.size (show wr.heap.size ≤ w7.heap.size from hb7.out.size)))
            have hb9 := Asd.mk (below_st hb7Y.out hb79)
            clear hb hv9 hb79
            go_wp2
            go_roundw
            case rel => exact ⟨kk + 1, by omega, by go_num, hL9.out, hb9.out⟩
            case measure => simp [intOf]; omega
      · obtain rfl : kk = asks.length := by omega
        have e2 := Asd.mk (show insS (onTo x.Runs asks asks.length) = waitsL W x.Runs q by unfold waitsL; rw [e1.out, onTo_end])
        replace hL := Asd.mk hL
        replace hbw := Asd.mk hbw
        clear hbr
        go_wp2
        go_ret
        rw [← e2.out]
        exact ⟨_, rfl, hL.out.made, hbw.out⟩
end Go.Proofs.YtkpkfihaihoaeaaGreatDoor.M
end
section
set_option linter.unusedVariables false
set_option linter.unusedSimpArgs false
namespace Go.Proofs.YtkpkfihaihoaeaaGreatDoor.M
open Go.RowKit
def readyC (W : Web) (s : State) : List ByteArray := if validS W s = true then readyL W s.Runs else []
theorem readyC_yes {W : Web} {s : State} (h : validS W s = true) : readyC W s = readyL W s.Runs := if_pos h
theorem readyC_no {W : Web} {s : State} (h : validS W s = false) : readyC W s = [] := if_neg (by rw [h]; decide)
theorem strs_cnt_len (t : Nat) (xs : List ByteArray) : cnt (strsT t xs) = xs.length := by
  show cnts (xs.flatMap strC) = _
  induction xs with
  | nil => rfl
  | cons x xs ih => rw [List.flatMap_cons, cnts_append, ih, List.length_cons]; simp [strC, cnts, cnt]; omega
theorem readyC_cnt (t : Nat) (W : Web) (s : State) : cnt (strsT t (readyC W s)) ≤ 60 := by
  rw [strs_cnt_len]
  cases h : validS W s with
  | true => obtain ⟨hw, _, hR⟩ := validS_reach h; rw [readyC_yes h]; exact readyL_len hw hR
  | false => rw [readyC_no h]; simp
theorem State.cnt_le (t : Nat) (x : State) : cntl (x.c t) ≤ 6 * x.bk := by
  have h1 := strs_cnt 9 x.Roots
  have h2 := runs_cnt t Run.bk x.Runs (fun r _ => by unfold Run.bk bkS bsOf; omega)
  have e : cntl (x.c t) = cnt (strsT 9 x.Roots) + (cnt (RunsT t x.Runs) + 0) := rfl
  rw [e]
  unfold State.bk Run.bs
  unfold bsOf
  omega
set_option maxRecDepth 100000 in
set_option maxHeartbeats 2000000 in
theorem Ready_calls {tN tS tC t : Nat} (W : Web) (s : State) (w : World) {vs us : List Value} (hW : reps w (W.c tN tS tC) vs) (h : reps w (State.c t s) us) (hz : W.Sm) (hgl : 3 < w.heap.size) (hgt : w.cell? ⟨3, 15, none⟩ = some (.int .u8 4)) :
    Calls Tryz.prog 37 #[.agg vs.toArray, .agg us.toArray] w (MadeV w (strsT 9 (readyC W s))) := by
  obtain ⟨v0, rfl, h0⟩ := Web.ropen hW
  obtain ⟨A, c, rfl, _, _⟩ := rep_len h0
  obtain ⟨u0, u1, rfl, g0, g1⟩ := State.ropen h
  obtain ⟨D, k, rfl, _, _⟩ := rep_len g0
  obtain ⟨B, d, rfl, _, _⟩ := rep_len g1
  replace hW := Asd.mk hW
  replace h := Asd.mk h
  clear h0 g0 g1
  have HB := Asd.mk (below_al (below_al (Below.refl w.heap.size w) (.cells #[.slice A W.Nodes.length c] 34)) (.cells #[.slice D s.Roots.length k, .slice B s.Runs.length d] 38))
  go_enter Tryz.func37, Tryz.ntmps37
  go_wp2_with fail
  refine (load_calls W s _ (hW.out.below HB.out) (h.out.below HB.out) hz (by simp; omega) (cell_below HB.out hgt)).mono ?_
  rintro e w1 ⟨hb, ⟨hv, eg, F, lo, rfl, hlo, hE⟩ | ⟨hv, rfl⟩⟩
  · have hq := Asd.mk (readyC_yes hv)
    obtain ⟨hw, _, hR⟩ := validS_reach hv
    have hb1 := Asd.mk (below_st HB.out hb)
    replace hE := Asd.mk hE
    replace hR := Asd.mk hR
    clear hb hlo hv
    go_wp2_with fail
    refine (ready_calls W s.Roots s.Runs eg F _ hE.out hw (hR.out.inv hw)).mono ?_
    rintro e w2 ⟨v, rfl, hM, hb⟩
    have hb2 := Asd.mk (below_st hb1.out hb)
    have hL := Asd.mk (hM.lie.mono hb1.out.size)
    clear hb hM
    go_wp2
    go_ret
    rw [hq.out]
    exact ⟨_, rfl, hL.out.made, hb2.out⟩
  · have hq := Asd.mk (readyC_no hv)
    have hb1 := Asd.mk (below_st HB.out hb)
    clear hb hv
    go_wp2
    go_ret
    rw [hq.out]
    exact ⟨_, rfl, Lie.made (Lie.nil _ _ _ _), hb1.out⟩
set_option maxRecDepth 100000 in
set_option maxHeartbeats 2000000 in
theorem sReady_calls {tN tS tC t : Nat} (W : Web) (s : State) (w : World) {vs us : List Value} (hW : reps w (W.c tN tS tC) vs) (h : reps w (State.c t s) us) (hz : W.Sm) :
    Calls Tryz.prog 36 #[.agg vs.toArray, .agg us.toArray] w (MadeV w (strsT 9 (readyC W s))) := by
  obtain ⟨v0, rfl, h0⟩ := Web.ropen hW
  obtain ⟨A, c, rfl, _, _⟩ := rep_len h0
  obtain ⟨u0, u1, rfl, g0, g1⟩ := State.ropen h
  obtain ⟨D, k, rfl, _, _⟩ := rep_len g0
  obtain ⟨B, d, rfl, _, _⟩ := rep_len g1
  replace hW := Asd.mk hW
  replace h := Asd.mk h
  clear h0 g0 g1
  have HB := Asd.mk (below_al (below_al (Below.refl w.heap.size w) (.cells #[.slice A W.Nodes.length c] 34)) (.cells #[.slice D s.Roots.length k, .slice B s.Runs.length d] 38))
  obtain ⟨g, hg⟩ : ∃ g, validS W s = g := ⟨_, rfl⟩
  go_enter Tryz.func36, Tryz.ntmps36
  go_wp2_with fail
  refine (sValidState_calls W s _ (hW.out.below HB.out) (h.out.below HB.out) hz).mono ?_
  rw [hg]
  rintro e w1 ⟨rfl, hb⟩
  obtain ⟨hcx, hfx⟩ := bcell hb
  have hzz : w.heap.size + 1 < w1.heap.size := by have := hb.size; simp at this; omega
  have hb1 := Asd.mk (below_st HB.out hb)
  have a0 : w1.cell? ⟨w.heap.size, 0, none⟩ = some (.slice A W.Nodes.length c) := by rw [hcx _ _ (by simp; omega)]; go_simp
  have b0 : w1.cell? ⟨w.heap.size + 1, 0, none⟩ = some (.slice D s.Roots.length k) := by rw [hcx _ _ (by simp)]; go_simp
  have b1 : w1.cell? ⟨w.heap.size + 1, 1, none⟩ = some (.slice B s.Runs.length d) := by rw [hcx _ _ (by simp)]; go_simp
  clear hb hcx hfx
  cases g with
  | true =>
    have hq := Asd.mk (readyC_yes hg)
    obtain ⟨hw, _, hR⟩ := validS_reach hg
    replace hR := Asd.mk hR
    clear hg
    go_wp2_with fail
    refine (l4Ready_calls W s _ (hW.out.below hb1.out) (h.out.below hb1.out) hw (hR.out.inv hw)).mono ?_
    rintro e w2 ⟨v, rfl, hM, hb⟩
    have hb2 := Asd.mk (below_st hb1.out hb)
    have hL := Asd.mk (hM.lie.mono hb1.out.size)
    clear hb hM
    go_wp2
    go_ret
    rw [hq.out]
    exact ⟨_, rfl, hL.out.made, hb2.out⟩
  | false =>
    have hq := Asd.mk (readyC_no hg)
    clear hg
    go_wp2
    go_ret
    rw [hq.out]
    exact ⟨_, rfl, Lie.made ((Lie.empty w1 _ _).mono hb1.out.size), by repeat (first | (with_reducible exact Below.refl _ _) | (with_reducible exact hb1.out) | (with_reducible refine below_al ?_ _) | (with_reducible refine below_dr ?_ _) | (with_reducible refine below_d1 ?_) | ((with_reducible refine Below.setCell ?_ ?_ _); rotate_left; (next => first | (simp; done) | (simp; omega) | omega)))⟩
end Go.Proofs.YtkpkfihaihoaeaaGreatDoor.M
end
section
set_option linter.unusedVariables false
set_option linter.unusedSimpArgs false
namespace Go.Proofs.YtkpkfihaihoaeaaGreatDoor.M
open Go.RowKit
def waitsC (W : Web) (s : State) (q : ByteArray) : List ByteArray := if validS W s = true then waitsL W s.Runs q else []
theorem waitsC_yes {W : Web} {s : State} {q : ByteArray} (h : validS W s = true) : waitsC W s q = waitsL W s.Runs q := if_pos h
theorem waitsC_no {W : Web} {s : State} {q : ByteArray} (h : validS W s = false) : waitsC W s q = [] := if_neg (by rw [h]; decide)
theorem waitsC_cnt (t : Nat) (W : Web) (s : State) (q : ByteArray) : cnt (strsT t (waitsC W s q)) ≤ 60 := by
  rw [strs_cnt_len]
  cases h : validS W s with
  | true =>
    obtain ⟨hw, _, hR⟩ := validS_reach h
    rw [waitsC_yes h]
    have h1 := insS_len (waitsRaw W s.Runs q)
    have h2 := (waits_len hw (hR.inv hw) q).1
    show (insS (waitsRaw W s.Runs q)).length ≤ 60
    omega
  | false => rw [waitsC_no h]; simp
set_option maxRecDepth 100000 in
set_option maxHeartbeats 2000000 in
theorem Waits_calls {tN tS tC t : Nat} (W : Web) (s : State) (q : ByteArray) (w : World) {vs us : List Value} (hW : reps w (W.c tN tS tC) vs) (h : reps w (State.c t s) us) (hz : W.Sm) (hgl : 3 < w.heap.size) (hgt : w.cell? ⟨3, 15, none⟩ = some (.int .u8 4)) :
    Calls Tryz.prog 48 #[.agg vs.toArray, .agg us.toArray, .string q] w (MadeV w (strsT 9 (waitsC W s q))) := by
  obtain ⟨v0, rfl, h0⟩ := Web.ropen hW
  obtain ⟨A, c, rfl, _, _⟩ := rep_len h0
  obtain ⟨u0, u1, rfl, g0, g1⟩ := State.ropen h
  obtain ⟨D, k, rfl, _, _⟩ := rep_len g0
  obtain ⟨B, d, rfl, _, _⟩ := rep_len g1
  replace hW := Asd.mk hW
  replace h := Asd.mk h
  clear h0 g0 g1
  have HB := Asd.mk (below_al (below_al (Below.refl w.heap.size w) (.cells #[.slice A W.Nodes.length c] 34)) (.cells #[.slice D s.Roots.length k, .slice B s.Runs.length d] 38))
  go_enter Tryz.func48, Tryz.ntmps48
  go_wp2_with fail
  refine (load_calls W s _ (hW.out.below HB.out) (h.out.below HB.out) hz (by simp; omega) (cell_below HB.out hgt)).mono ?_
  rintro e w1 ⟨hb, ⟨hv, eg, F, lo, rfl, hlo, hE⟩ | ⟨hv, rfl⟩⟩
  · have hq := Asd.mk (waitsC_yes (q := q) hv)
    obtain ⟨hw, _, hR⟩ := validS_reach hv
    have hb1 := Asd.mk (below_st HB.out hb)
    replace hE := Asd.mk hE
    replace hR := Asd.mk hR
    clear hb hlo hv
    go_wp2_with fail
    refine (waits_calls W s.Roots s.Runs eg F q _ hE.out hw (hR.out.inv hw)).mono ?_
    rintro e w2 ⟨v, rfl, hM, hb⟩
    have hb2 := Asd.mk (below_st hb1.out hb)
    have hL := Asd.mk (hM.lie.mono hb1.out.size)
    clear hb hM
    go_wp2
    go_ret
    rw [hq.out]
    exact ⟨_, rfl, hL.out.made, hb2.out⟩
  · have hq := Asd.mk (waitsC_no (q := q) hv)
    have hb1 := Asd.mk (below_st HB.out hb)
    clear hb hv
    go_wp2
    go_ret
    rw [hq.out]
    exact ⟨_, rfl, Lie.made (Lie.nil _ _ _ _), hb1.out⟩
set_option maxRecDepth 100000 in
set_option maxHeartbeats 2000000 in
theorem sWaits_calls {tN tS tC t : Nat} (W : Web) (s : State) (q : ByteArray) (w : World) {vs us : List Value} (hW : reps w (W.c tN tS tC) vs) (h : reps w (State.c t s) us) (hz : W.Sm) :
    Calls Tryz.prog 47 #[.agg vs.toArray, .agg us.toArray, .string q] w (MadeV w (strsT 9 (waitsC W s q))) := by
  obtain ⟨v0, rfl, h0⟩ := Web.ropen hW
  obtain ⟨A, c, rfl, _, _⟩ := rep_len h0
  obtain ⟨u0, u1, rfl, g0, g1⟩ := State.ropen h
  obtain ⟨D, k, rfl, _, _⟩ := rep_len g0
  obtain ⟨B, d, rfl, _, _⟩ := rep_len g1
  replace hW := Asd.mk hW
  replace h := Asd.mk h
  clear h0 g0 g1
  have HB := Asd.mk (below_al (below_al (Below.refl w.heap.size w) (.cells #[.slice A W.Nodes.length c] 34)) (.cells #[.slice D s.Roots.length k, .slice B s.Runs.length d] 38))
  obtain ⟨g, hg⟩ : ∃ g, validS W s = g := ⟨_, rfl⟩
  go_enter Tryz.func47, Tryz.ntmps47
  go_wp2_with fail
  refine (sValidState_calls W s _ (hW.out.below HB.out) (h.out.below HB.out) hz).mono ?_
  rw [hg]
  rintro e w1 ⟨rfl, hb⟩
  obtain ⟨hcx, hfx⟩ := bcell hb
  have hzz : w.heap.size + 1 < w1.heap.size := by have := hb.size; simp at this; omega
  have hb1 := Asd.mk (below_st HB.out hb)
  have a0 : w1.cell? ⟨w.heap.size, 0, none⟩ = some (.slice A W.Nodes.length c) := by rw [hcx _ _ (by simp; omega)]; go_simp
  have b0 : w1.cell? ⟨w.heap.size + 1, 0, none⟩ = some (.slice D s.Roots.length k) := by rw [hcx _ _ (by simp)]; go_simp
  have b1 : w1.cell? ⟨w.heap.size + 1, 1, none⟩ = some (.slice B s.Runs.length d) := by rw [hcx _ _ (by simp)]; go_simp
  clear hb hcx hfx
  cases g with
  | true =>
    have hq := Asd.mk (waitsC_yes (q := q) hg)
    obtain ⟨hw, _, hR⟩ := validS_reach hg
    replace hR := Asd.mk hR
    clear hg
    go_wp2_with fail
    refine (l6Waits_calls W s q _ (hW.out.below hb1.out) (h.out.below hb1.out) hw (hR.out.inv hw)).mono ?_
    rintro e w2 ⟨v, rfl, hM, hb⟩
    have hb2 := Asd.mk (below_st hb1.out hb)
    have hL := Asd.mk (hM.lie.mono hb1.out.size)
    clear hb hM
    go_wp2
    go_ret
    rw [hq.out]
    exact ⟨_, rfl, hL.out.made, hb2.out⟩
  | false =>
    have hq := Asd.mk (waitsC_no (q := q) hg)
    clear hg
    go_wp2
    go_ret
    rw [hq.out]
    exact ⟨_, rfl, Lie.made ((Lie.empty w1 _ _).mono hb1.out.size), by repeat (first | (with_reducible exact Below.refl _ _) | (with_reducible exact hb1.out) | (with_reducible refine below_al ?_ _) | (with_reducible refine below_dr ?_ _) | (with_reducible refine below_d1 ?_) | ((with_reducible refine Below.setCell ?_ ?_ _); rotate_left; (next => first | (simp; done) | (simp; omega) | omega)))⟩
end Go.Proofs.YtkpkfihaihoaeaaGreatDoor.M
end
section
set_option linter.unusedVariables false
set_option linter.unusedSimpArgs false
namespace Go.Proofs.YtkpkfihaihoaeaaGreatDoor.M
open Go.RowKit

set_option maxRecDepth 100000 in
set_option maxHeartbeats 4000000 in
theorem FnExactWaits_calls {tNode0 tStep0 tCase0 tRun1 : Nat} (x0 : Web) (x1 : State) (x2 : ByteArray) (w : World) {vs0 : List Value} (h0 : reps w (x0.c tNode0 tStep0 tCase0) vs0) (hz0 : x0.Zm) {vs1 : List Value} (h1 : reps w (x1.c tRun1) vs1) (hz1 : x1.Zm) (hz2 : x2.size ≤ 9223372036854775807) (hg : 3 < w.heap.size) (ht : w.cell? ⟨3, 15, none⟩ = some (.int .u8 4)) :
    Calls Tryz.prog 8 #[.agg vs0.toArray, .agg vs1.toArray, .string x2] w fun e w' => e = .returned (.bool true) ∧ Below w.heap.size w w' := by
  have H0 := Asd.mk h0
  obtain ⟨u0_0, rfl, g0_0⟩ := Web.ropen h0
  obtain ⟨A0_0, C0_0, rfl, _, _⟩ := rep_len g0_0
  clear g0_0
  clear h0
  replace hz0 := Asd.mk hz0
  have H1 := Asd.mk h1
  obtain ⟨u1_0, u1_1, rfl, g1_0, g1_1⟩ := State.ropen h1
  obtain ⟨A1_0, C1_0, rfl, _, _⟩ := rep_len g1_0
  clear g1_0
  obtain ⟨A1_1, C1_1, rfl, _, _⟩ := rep_len g1_1
  clear g1_1
  clear h1
  replace hz1 := Asd.mk hz1
  replace hz2 := Asd.mk hz2
  by_cases qs2 : ((x2.size : Nat) : Int) ≤ 1048576
  rotate_left
  · replace qs2 : (1048576 : Int) < (x2.size : Nat) := by omega
    have hs2 := hz2.out
    go_enter Tryz.func8, Tryz.ntmps8
    go_wp2
    go_ret
    exact ⟨rfl, below_al (below_al (Below.refl _ _) _) _⟩
  have hs2 := hz2.out
  have qn2 : ¬(1048576 : Int) < (x2.size : Nat) := by omega
  by_cases q0 : ((x0.bk : Nat) : Int) ≤ 1048576
  rotate_left
  · have e0 : szI (x0.bk) (1048576) = -1 := szI_no q0
    go_enter Tryz.func8, Tryz.ntmps8
    go_wp2_with fail
    refine (szWeb_calls x0 _ _ (H0.out.below (below_al (below_al (Below.refl _ _) _) _)) (by omega) (by omega) hz0.out).mono ?_
    rintro e w1 ⟨rfl, hb⟩
    have hF := Far.of_below hb
    have zs1 : w.heap.size + 1 + 1 ≤ w1.heap.size := by have := hF.size; (try simp at this); omega
    have c0_0 : w1.cell? ⟨w.heap.size, 0, none⟩ = some (.slice A0_0 x0.Nodes.length C0_0) := by rw [hF.cell (by first | (simp; done) | (simp; omega) | omega) (by omega)]; first | exact c0_0 | go_simp
    have c1_0 : w1.cell? ⟨w.heap.size + 1, 0, none⟩ = some (.slice A1_0 x1.Roots.length C1_0) := by rw [hF.cell (by first | (simp; done) | (simp; omega) | omega) (by omega)]; first | exact c1_0 | go_simp
    have c1_1 : w1.cell? ⟨w.heap.size + 1, 1, none⟩ = some (.slice A1_1 x1.Runs.length C1_1) := by rw [hF.cell (by first | (simp; done) | (simp; omega) | omega) (by omega)]; first | exact c1_1 | go_simp
    have z0 : w.heap.size < w1.heap.size := by omega
    have z1 : w.heap.size + 1 < w1.heap.size := by omega
    have HB_1 := Asd.mk (Far.trans3 (below_al (below_al (Below.refl _ _) _) _) hF (by omega))
    clear hF hb
    go_wp2
    go_ret
    exact ⟨rfl, HB_1.out⟩
  have e0 : szI (x0.bk) (1048576) = 1048576 - (x0.bk : Nat) := szI_yes q0
  by_cases q1 : ((x1.bk : Nat) : Int) ≤ 1048576 - (x0.bk : Nat)
  rotate_left
  · have e1 : szI (x1.bk) (1048576 - (x0.bk : Nat)) = -1 := szI_no q1
    go_enter Tryz.func8, Tryz.ntmps8
    go_wp2_with fail
    refine (szWeb_calls x0 _ _ (H0.out.below (below_al (below_al (Below.refl _ _) _) _)) (by omega) (by omega) hz0.out).mono ?_
    rintro e w1 ⟨rfl, hb⟩
    have hF := Far.of_below hb
    have zs1 : w.heap.size + 1 + 1 ≤ w1.heap.size := by have := hF.size; (try simp at this); omega
    have c0_0 : w1.cell? ⟨w.heap.size, 0, none⟩ = some (.slice A0_0 x0.Nodes.length C0_0) := by rw [hF.cell (by first | (simp; done) | (simp; omega) | omega) (by omega)]; first | exact c0_0 | go_simp
    have c1_0 : w1.cell? ⟨w.heap.size + 1, 0, none⟩ = some (.slice A1_0 x1.Roots.length C1_0) := by rw [hF.cell (by first | (simp; done) | (simp; omega) | omega) (by omega)]; first | exact c1_0 | go_simp
    have c1_1 : w1.cell? ⟨w.heap.size + 1, 1, none⟩ = some (.slice A1_1 x1.Runs.length C1_1) := by rw [hF.cell (by first | (simp; done) | (simp; omega) | omega) (by omega)]; first | exact c1_1 | go_simp
    have z0 : w.heap.size < w1.heap.size := by omega
    have z1 : w.heap.size + 1 < w1.heap.size := by omega
    have HB_1 := Asd.mk (Far.trans3 (below_al (below_al (Below.refl _ _) _) _) hF (by omega))
    clear hF hb
    go_wp2_with fail
    refine (szState_calls x1 _ _ (H1.out.below (HB_1.out)) (by omega) (by omega) hz1.out).mono ?_
    rintro e w2 ⟨rfl, hb⟩
    have hF := Far.of_below hb
    have zs2 : w1.heap.size ≤ w2.heap.size := by have := hF.size; (try simp at this); omega
    replace c0_0 : w2.cell? ⟨w.heap.size, 0, none⟩ = some (.slice A0_0 x0.Nodes.length C0_0) := by rw [hF.cell (by first | (simp; done) | (simp; omega) | omega) (by omega)]; first | exact c0_0 | go_simp
    replace c1_0 : w2.cell? ⟨w.heap.size + 1, 0, none⟩ = some (.slice A1_0 x1.Roots.length C1_0) := by rw [hF.cell (by first | (simp; done) | (simp; omega) | omega) (by omega)]; first | exact c1_0 | go_simp
    replace c1_1 : w2.cell? ⟨w.heap.size + 1, 1, none⟩ = some (.slice A1_1 x1.Runs.length C1_1) := by rw [hF.cell (by first | (simp; done) | (simp; omega) | omega) (by omega)]; first | exact c1_1 | go_simp
    replace z0 : w.heap.size < w2.heap.size := by omega
    replace z1 : w.heap.size + 1 < w2.heap.size := by omega
    have HB_2 := Asd.mk (Far.trans3 (HB_1.out) hF (by omega))
    clear hF hb
    go_wp2
    go_ret
    exact ⟨rfl, HB_2.out⟩
  have e1 : szI (x1.bk) (1048576 - (x0.bk : Nat)) = 1048576 - (x0.bk : Nat) - (x1.bk : Nat) := szI_yes q1
  obtain ⟨g, gx⟩ : ∃ g, waitsC x0 x1 x2 = g := ⟨_, rfl⟩
  obtain ⟨KA0, ka0⟩ : ∃ K, 1 + cntl (x0.c 113 121 213) = K := ⟨_, rfl⟩
  have la0 : 1 ≤ KA0 := by omega
  obtain ⟨KA1, ka1⟩ : ∃ K, KA0 + cntl (x1.c 84) = K := ⟨_, rfl⟩
  have la1 : KA0 ≤ KA1 := by omega
  obtain ⟨KG0, kg0⟩ : ∃ K, 1 + cnt (strsT 9 g) = K := ⟨_, rfl⟩
  have lg0 : 1 ≤ KG0 := by omega
  have hc_ : cntl (x0.c 113 121 213) ≤ 6 * x0.bk := Web.cnt_le x0
  have hc2_ : cntl (x1.c 84) ≤ 6 * x1.bk := State.cnt_le _ x1
  have hg_ : cnt (strsT 9 g) ≤ 3000 := by rw [← gx]; exact Nat.le_trans (waitsC_cnt _ x0 x1 x2) (by decide)
  have hKA : KA1 ≤ 1000000000 := by omega
  have hKG : KG0 ≤ 1000000000 := by omega
  replace ka0 := Asd.mk ka0
  replace ka1 := Asd.mk ka1
  replace kg0 := Asd.mk kg0
  clear hc_
  go_enter Tryz.func8, Tryz.ntmps8
  go_wp2_with fail
  refine (szWeb_calls x0 _ _ (H0.out.below (below_al (below_al (Below.refl _ _) _) _)) (by omega) (by omega) hz0.out).mono ?_
  rintro e w1 ⟨rfl, hb⟩
  have hF := Far.of_below hb
  have zs1 : w.heap.size + 1 + 1 ≤ w1.heap.size := by have := hF.size; (try simp at this); omega
  have c0_0 : w1.cell? ⟨w.heap.size, 0, none⟩ = some (.slice A0_0 x0.Nodes.length C0_0) := by rw [hF.cell (by first | (simp; done) | (simp; omega) | omega) (by omega)]; first | exact c0_0 | go_simp
  have c1_0 : w1.cell? ⟨w.heap.size + 1, 0, none⟩ = some (.slice A1_0 x1.Roots.length C1_0) := by rw [hF.cell (by first | (simp; done) | (simp; omega) | omega) (by omega)]; first | exact c1_0 | go_simp
  have c1_1 : w1.cell? ⟨w.heap.size + 1, 1, none⟩ = some (.slice A1_1 x1.Runs.length C1_1) := by rw [hF.cell (by first | (simp; done) | (simp; omega) | omega) (by omega)]; first | exact c1_1 | go_simp
  have z0 : w.heap.size < w1.heap.size := by omega
  have z1 : w.heap.size + 1 < w1.heap.size := by omega
  have HB_1 := Asd.mk (Far.trans3 (below_al (below_al (Below.refl _ _) _) _) hF (by omega))
  clear hF hb
  go_wp2_with fail
  refine (szState_calls x1 _ _ (H1.out.below (HB_1.out)) (by omega) (by omega) hz1.out).mono ?_
  rintro e w2 ⟨rfl, hb⟩
  have hF := Far.of_below hb
  have zs2 : w1.heap.size ≤ w2.heap.size := by have := hF.size; (try simp at this); omega
  replace c0_0 : w2.cell? ⟨w.heap.size, 0, none⟩ = some (.slice A0_0 x0.Nodes.length C0_0) := by rw [hF.cell (by first | (simp; done) | (simp; omega) | omega) (by omega)]; first | exact c0_0 | go_simp
  replace c1_0 : w2.cell? ⟨w.heap.size + 1, 0, none⟩ = some (.slice A1_0 x1.Roots.length C1_0) := by rw [hF.cell (by first | (simp; done) | (simp; omega) | omega) (by omega)]; first | exact c1_0 | go_simp
  replace c1_1 : w2.cell? ⟨w.heap.size + 1, 1, none⟩ = some (.slice A1_1 x1.Runs.length C1_1) := by rw [hF.cell (by first | (simp; done) | (simp; omega) | omega) (by omega)]; first | exact c1_1 | go_simp
  replace z0 : w.heap.size < w2.heap.size := by omega
  replace z1 : w.heap.size + 1 < w2.heap.size := by omega
  have HB_2 := Asd.mk (Far.trans3 (HB_1.out) hF (by omega))
  clear hF hb
  have hkeep := Asd.mk (show ∀ W, Below w2.heap.size w2 W → (Below w2.heap.size w2 W ∧ W.cell? ⟨w.heap.size, 0, none⟩ = some (.slice A0_0 x0.Nodes.length C0_0) ∧ W.cell? ⟨w.heap.size + 1, 0, none⟩ = some (.slice A1_0 x1.Roots.length C1_0) ∧ W.cell? ⟨w.heap.size + 1, 1, none⟩ = some (.slice A1_1 x1.Runs.length C1_1)) from fun W hb => ⟨hb, cell_below hb c0_0, cell_below hb c1_0, cell_below hb c1_1⟩)
  have s_0 : Below w2.heap.size w2 w2.drew := (Below.refl _ _).drew
  go_wp2
  go_region_held3 (fun W => Below w2.heap.size w2 W ∧ W.cell? ⟨w.heap.size, 0, none⟩ = some (.slice A0_0 x0.Nodes.length C0_0) ∧ W.cell? ⟨w.heap.size + 1, 0, none⟩ = some (.slice A1_0 x1.Roots.length C1_0) ∧ W.cell? ⟨w.heap.size + 1, 1, none⟩ = some (.slice A1_1 x1.Runs.length C1_1)) ((refine hkeep.out _ ?_; (repeat (first | (with_reducible exact Below.refl _ _) | (with_reducible exact s_0) | (with_reducible refine below_al ?_ _) | (with_reducible refine below_dr ?_ _) | (with_reducible refine below_d1 ?_) | ((with_reducible refine Below.setCell ?_ ?_ _); rotate_left; (next => first | (simp; done) | (simp; omega) | omega))))))
    (first | (go_at_call 18; refine (toWeb_calls x0 _ (H0.out.below (below_st (HB_2.out) (show Below w2.heap.size w2 _ from by repeat (first | (with_reducible exact Below.refl _ _) | (with_reducible exact s_0) | (with_reducible refine below_al ?_ _) | (with_reducible refine below_dr ?_ _) | (with_reducible refine below_d1 ?_) | ((with_reducible refine Below.setCell ?_ ?_ _); rotate_left; (next => first | (simp; done) | (simp; omega) | omega)))))) (by omega)).mono ?_; rintro e W0 ⟨us, rfl, ⟨F_, o_, n_, l_⟩, hb⟩; obtain ⟨v_0, G_0, rfl, p_0, rfl⟩ := Web.oopen o_; obtain ⟨D0_0, d0_0, rfl, _, _⟩ := own_slice p_0; have r_s0 := Asd.mk o_.rep; obtain ⟨s_0, s_1, s_2, s_3⟩ := hkeep.out _ (below_st (show Below w2.heap.size w2 _ from by repeat (first | (with_reducible exact Below.refl _ _) | (with_reducible exact s_0) | (with_reducible refine below_al ?_ _) | (with_reducible refine below_dr ?_ _) | (with_reducible refine below_d1 ?_) | ((with_reducible refine Below.setCell ?_ ?_ _); rotate_left; (next => first | (simp; done) | (simp; omega) | omega)))) hb); clear hb o_ l_ n_ p_0) | (go_at_call 19; refine (toState_calls x1 _ (H1.out.below (below_st (HB_2.out) (show Below w2.heap.size w2 _ from by repeat (first | (with_reducible exact Below.refl _ _) | (with_reducible exact s_0) | (with_reducible refine below_al ?_ _) | (with_reducible refine below_dr ?_ _) | (with_reducible refine below_d1 ?_) | ((with_reducible refine Below.setCell ?_ ?_ _); rotate_left; (next => first | (simp; done) | (simp; omega) | omega)))))) (by omega)).mono ?_; rintro e W1 ⟨us, rfl, ⟨F_, o_, n_, l_⟩, hb⟩; obtain ⟨v_0, G_0, v_1, G_1, rfl, p_0, p_1, rfl⟩ := State.oopen o_; obtain ⟨D1_0, d1_0, rfl, _, _⟩ := own_slice p_0; obtain ⟨D1_1, d1_1, rfl, _, _⟩ := own_slice p_1; have r_s1 := Asd.mk o_.rep; replace r_s0 := Asd.mk (r_s0.out.below (below_st (by repeat (first | (with_reducible exact Below.refl _ _) | (with_reducible exact Below.refl _ _) | (with_reducible refine below_al ?_ _) | (with_reducible refine below_dr ?_ _) | (with_reducible refine below_d1 ?_) | ((with_reducible refine Below.setCell ?_ ?_ _); rotate_left; (next => first | (simp; done) | (simp; omega) | omega)))) hb)); obtain ⟨s_0, s_1, s_2, s_3⟩ := hkeep.out _ (below_st (show Below w2.heap.size w2 _ from by repeat (first | (with_reducible exact Below.refl _ _) | (with_reducible exact s_0) | (with_reducible refine below_al ?_ _) | (with_reducible refine below_dr ?_ _) | (with_reducible refine below_d1 ?_) | ((with_reducible refine Below.setCell ?_ ?_ _); rotate_left; (next => first | (simp; done) | (simp; omega) | omega)))) hb); clear hb o_ l_ n_ p_0 p_1) | (go_at_call 47; refine (sWaits_calls x0 x1 x2 _ (r_s0.out.below (by repeat (first | (with_reducible exact Below.refl _ _) | (with_reducible exact Below.refl _ _) | (with_reducible refine below_al ?_ _) | (with_reducible refine below_dr ?_ _) | (with_reducible refine below_d1 ?_) | ((with_reducible refine Below.setCell ?_ ?_ _); rotate_left; (next => first | (simp; done) | (simp; omega) | omega))))) (r_s1.out.below (by repeat (first | (with_reducible exact Below.refl _ _) | (with_reducible exact Below.refl _ _) | (with_reducible refine below_al ?_ _) | (with_reducible refine below_dr ?_ _) | (with_reducible refine below_d1 ?_) | ((with_reducible refine Below.setCell ?_ ?_ _); rotate_left; (next => first | (simp; done) | (simp; omega) | omega))))) (Web.zsm hz0.out)).mono ?_; rw [gx]; rintro e w3 ⟨v_, rfl, hM, hb⟩; have I_w0 : Asd (Iv _ w3.heap.size w3 ([strsT 9 g]) [v_]) := Asd.mk ((Iv.of_lie hM.lie).mono (Nat.le_refl _) (Nat.le_refl _)); obtain ⟨F_, o_, _, _⟩ := hM; obtain ⟨Aw0, Cw0, rfl, _, _⟩ := own_slice o_; clear o_; obtain ⟨s_0, s_1, s_2, s_3⟩ := hkeep.out _ (below_st (show Below w2.heap.size w2 _ from by repeat (first | (with_reducible exact Below.refl _ _) | (with_reducible exact s_0) | (with_reducible refine below_al ?_ _) | (with_reducible refine below_dr ?_ _) | (with_reducible refine below_d1 ?_) | ((with_reducible refine Below.setCell ?_ ?_ _); rotate_left; (next => first | (simp; done) | (simp; omega) | omega)))) hb); clear hb))
  have hF : Far 0 0 w2 w3 := Far.of_below s_0
  clear hkeep s_0 s_1 s_2 s_3 r_s0 r_s1
  have zs3 : w2.heap.size ≤ w3.heap.size := by have := hF.size; (try simp at this); omega
  replace c0_0 : w3.cell? ⟨w.heap.size, 0, none⟩ = some (.slice A0_0 x0.Nodes.length C0_0) := by rw [hF.cell (by first | (simp; done) | (simp; omega) | omega) (by omega)]; first | exact c0_0 | go_simp
  replace c1_0 : w3.cell? ⟨w.heap.size + 1, 0, none⟩ = some (.slice A1_0 x1.Roots.length C1_0) := by rw [hF.cell (by first | (simp; done) | (simp; omega) | omega) (by omega)]; first | exact c1_0 | go_simp
  replace c1_1 : w3.cell? ⟨w.heap.size + 1, 1, none⟩ = some (.slice A1_1 x1.Runs.length C1_1) := by rw [hF.cell (by first | (simp; done) | (simp; omega) | omega) (by omega)]; first | exact c1_1 | go_simp
  replace z0 : w.heap.size < w3.heap.size := by omega
  replace z1 : w.heap.size + 1 < w3.heap.size := by omega
  have HB_3 := Asd.mk (Far.trans3 (HB_2.out) hF (by omega))
  clear hF
  go_wp2_with fail
  refine (toWeb_calls x0 _ (H0.out.below (HB_3.out)) (by omega)).mono ?_
  rintro e w4 ⟨us, rfl, hM, hb⟩
  have hF := Far.of_below hb
  have I_i0 : Asd (Iv (w3.heap.size) w4.heap.size w4 (x0.c 113 121 213) us) := Asd.mk ((Iv.of_mades hM).mono (by simp) (Nat.le_refl _))
  obtain ⟨F_, o_, _, _⟩ := hM
  obtain ⟨v_0, G_0, rfl, p_0, rfl⟩ := Web.oopen o_
  obtain ⟨Ai0_0, Ci0_0, rfl, _, _⟩ := own_slice p_0
  clear o_ p_0
  have zs4 : w3.heap.size ≤ w4.heap.size := by have := hF.size; (try simp at this); omega
  replace c0_0 : w4.cell? ⟨w.heap.size, 0, none⟩ = some (.slice A0_0 x0.Nodes.length C0_0) := by rw [hF.cell (by first | (simp; done) | (simp; omega) | omega) (by omega)]; first | exact c0_0 | go_simp
  replace c1_0 : w4.cell? ⟨w.heap.size + 1, 0, none⟩ = some (.slice A1_0 x1.Roots.length C1_0) := by rw [hF.cell (by first | (simp; done) | (simp; omega) | omega) (by omega)]; first | exact c1_0 | go_simp
  replace c1_1 : w4.cell? ⟨w.heap.size + 1, 1, none⟩ = some (.slice A1_1 x1.Runs.length C1_1) := by rw [hF.cell (by first | (simp; done) | (simp; omega) | omega) (by omega)]; first | exact c1_1 | go_simp
  replace z0 : w.heap.size < w4.heap.size := by omega
  replace z1 : w.heap.size + 1 < w4.heap.size := by omega
  have HB_4 := Asd.mk (Far.trans3 (HB_3.out) hF (by omega))
  replace I_w0 := Asd.mk ((I_w0.out.below (Below.refl _ _)).far hF (by omega))
  clear hF hb
  go_wp2_with fail
  refine (toState_calls x1 _ (H1.out.below (below_al (HB_4.out) _)) (by omega)).mono ?_
  rintro e w5 ⟨us, rfl, hM, hb⟩
  have hF := Far.of_below hb
  have I_i1 : Asd (Iv (w4.heap.size + 1) w5.heap.size w5 (x1.c 84) us) := Asd.mk ((Iv.of_mades hM).mono (by simp) (Nat.le_refl _))
  obtain ⟨F_, o_, _, _⟩ := hM
  obtain ⟨v_0, G_0, v_1, G_1, rfl, p_0, p_1, rfl⟩ := State.oopen o_
  obtain ⟨Ai1_0, Ci1_0, rfl, _, _⟩ := own_slice p_0
  obtain ⟨Ai1_1, Ci1_1, rfl, _, _⟩ := own_slice p_1
  clear o_ p_0 p_1
  have zs5 : w4.heap.size + 1 ≤ w5.heap.size := by have := hF.size; (try simp at this); omega
  replace c0_0 : w5.cell? ⟨w.heap.size, 0, none⟩ = some (.slice A0_0 x0.Nodes.length C0_0) := by rw [hF.cell (by first | (simp; done) | (simp; omega) | omega) (by omega)]; first | exact c0_0 | go_simp
  replace c1_0 : w5.cell? ⟨w.heap.size + 1, 0, none⟩ = some (.slice A1_0 x1.Roots.length C1_0) := by rw [hF.cell (by first | (simp; done) | (simp; omega) | omega) (by omega)]; first | exact c1_0 | go_simp
  replace c1_1 : w5.cell? ⟨w.heap.size + 1, 1, none⟩ = some (.slice A1_1 x1.Runs.length C1_1) := by rw [hF.cell (by first | (simp; done) | (simp; omega) | omega) (by omega)]; first | exact c1_1 | go_simp
  have c2_0 : w5.cell? ⟨w4.heap.size, 0, none⟩ = some (.slice Ai0_0 x0.Nodes.length Ci0_0) := by rw [hF.cell (by first | (simp; done) | (simp; omega) | omega) (by omega)]; first | exact c2_0 | go_simp
  replace z0 : w.heap.size < w5.heap.size := by omega
  replace z1 : w.heap.size + 1 < w5.heap.size := by omega
  have z2 : w4.heap.size < w5.heap.size := by omega
  have HB_5 := Asd.mk (Far.trans3 (below_al (HB_4.out) _) hF (by omega))
  replace I_w0 := Asd.mk ((I_w0.out.below (below_al (Below.refl _ _) _)).far hF (by omega))
  replace I_i0 := Asd.mk ((I_i0.out.below (below_al (Below.refl _ _) _)).far hF (by omega))
  clear hF hb
  go_wp2_with fail
  refine (Waits_calls x0 x1 x2 _ (I_i0.out.reps.below (below_al (Below.refl _ _) _)) (I_i1.out.reps.below (below_al (Below.refl _ _) _)) (Web.zsm hz0.out) (Nat.lt_of_lt_of_le hg (below_al (HB_5.out) _).size) (cell_below (below_al (HB_5.out) _) ht)).mono ?_
  rw [gx]
  rintro e w6 ⟨v_, rfl, hM, hb⟩
  have hF := Far.of_below hb
  have I_g0 : Asd (Iv (w5.heap.size + 1) w6.heap.size w6 ([strsT 9 g]) [v_]) := Asd.mk ((Iv.of_lie hM.lie).mono (by simp) (Nat.le_refl _))
  obtain ⟨F_, o_, _, _⟩ := hM
  obtain ⟨Ag0, Cg0, rfl, _, _⟩ := own_slice o_
  clear o_
  have zs6 : w5.heap.size + 1 ≤ w6.heap.size := by have := hF.size; (try simp at this); omega
  replace c0_0 : w6.cell? ⟨w.heap.size, 0, none⟩ = some (.slice A0_0 x0.Nodes.length C0_0) := by rw [hF.cell (by first | (simp; done) | (simp; omega) | omega) (by omega)]; first | exact c0_0 | go_simp
  replace c1_0 : w6.cell? ⟨w.heap.size + 1, 0, none⟩ = some (.slice A1_0 x1.Roots.length C1_0) := by rw [hF.cell (by first | (simp; done) | (simp; omega) | omega) (by omega)]; first | exact c1_0 | go_simp
  replace c1_1 : w6.cell? ⟨w.heap.size + 1, 1, none⟩ = some (.slice A1_1 x1.Runs.length C1_1) := by rw [hF.cell (by first | (simp; done) | (simp; omega) | omega) (by omega)]; first | exact c1_1 | go_simp
  replace c2_0 : w6.cell? ⟨w4.heap.size, 0, none⟩ = some (.slice Ai0_0 x0.Nodes.length Ci0_0) := by rw [hF.cell (by first | (simp; done) | (simp; omega) | omega) (by omega)]; first | exact c2_0 | go_simp
  have c3_0 : w6.cell? ⟨w5.heap.size, 0, none⟩ = some (.slice Ai1_0 x1.Roots.length Ci1_0) := by rw [hF.cell (by first | (simp; done) | (simp; omega) | omega) (by omega)]; first | exact c3_0 | go_simp
  have c3_1 : w6.cell? ⟨w5.heap.size, 1, none⟩ = some (.slice Ai1_1 x1.Runs.length Ci1_1) := by rw [hF.cell (by first | (simp; done) | (simp; omega) | omega) (by omega)]; first | exact c3_1 | go_simp
  replace z0 : w.heap.size < w6.heap.size := by omega
  replace z1 : w.heap.size + 1 < w6.heap.size := by omega
  replace z2 : w4.heap.size < w6.heap.size := by omega
  have z3 : w5.heap.size < w6.heap.size := by omega
  have HB_6 := Asd.mk (Far.trans3 (below_al (HB_5.out) _) hF (by omega))
  replace I_w0 := Asd.mk ((I_w0.out.below (below_al (Below.refl _ _) _)).far hF (by omega))
  replace I_i0 := Asd.mk ((I_i0.out.below (below_al (Below.refl _ _) _)).far hF (by omega))
  replace I_i1 := Asd.mk ((I_i1.out.below (below_al (Below.refl _ _) _)).far hF (by omega))
  clear hF hb
  have y_0 : eqB (g) (g) = true := eqB_yes rfl
  go_wp2_with fail
  refine (eqStringS_calls (g) (g) _ _ _ (reps_one (I_g0.out.reps.below (Below.refl _ _))) (reps_one (I_w0.out.reps.below (Below.refl _ _)))).mono ?_
  rintro e w7 ⟨rfl, hb⟩
  have hF := Far.of_below hb
  have zs7 : w6.heap.size ≤ w7.heap.size := by have := hF.size; (try simp at this); omega
  replace c0_0 : w7.cell? ⟨w.heap.size, 0, none⟩ = some (.slice A0_0 x0.Nodes.length C0_0) := by rw [hF.cell (by first | (simp; done) | (simp; omega) | omega) (by omega)]; first | exact c0_0 | go_simp
  replace c1_0 : w7.cell? ⟨w.heap.size + 1, 0, none⟩ = some (.slice A1_0 x1.Roots.length C1_0) := by rw [hF.cell (by first | (simp; done) | (simp; omega) | omega) (by omega)]; first | exact c1_0 | go_simp
  replace c1_1 : w7.cell? ⟨w.heap.size + 1, 1, none⟩ = some (.slice A1_1 x1.Runs.length C1_1) := by rw [hF.cell (by first | (simp; done) | (simp; omega) | omega) (by omega)]; first | exact c1_1 | go_simp
  replace c2_0 : w7.cell? ⟨w4.heap.size, 0, none⟩ = some (.slice Ai0_0 x0.Nodes.length Ci0_0) := by rw [hF.cell (by first | (simp; done) | (simp; omega) | omega) (by omega)]; first | exact c2_0 | go_simp
  replace c3_0 : w7.cell? ⟨w5.heap.size, 0, none⟩ = some (.slice Ai1_0 x1.Roots.length Ci1_0) := by rw [hF.cell (by first | (simp; done) | (simp; omega) | omega) (by omega)]; first | exact c3_0 | go_simp
  replace c3_1 : w7.cell? ⟨w5.heap.size, 1, none⟩ = some (.slice Ai1_1 x1.Runs.length Ci1_1) := by rw [hF.cell (by first | (simp; done) | (simp; omega) | omega) (by omega)]; first | exact c3_1 | go_simp
  replace z0 : w.heap.size < w7.heap.size := by omega
  replace z1 : w.heap.size + 1 < w7.heap.size := by omega
  replace z2 : w4.heap.size < w7.heap.size := by omega
  replace z3 : w5.heap.size < w7.heap.size := by omega
  have HB_7 := Asd.mk (Far.trans3 (HB_6.out) hF (by omega))
  replace I_w0 := Asd.mk ((I_w0.out.below (Below.refl _ _)).far hF (by omega))
  replace I_i0 := Asd.mk ((I_i0.out.below (Below.refl _ _)).far hF (by omega))
  replace I_i1 := Asd.mk ((I_i1.out.below (Below.refl _ _)).far hF (by omega))
  replace I_g0 := Asd.mk ((I_g0.out.below (Below.refl _ _)).far hF (by omega))
  clear hF hb
  have yx_0 : eqB x0 x0 = true := eqB_yes rfl
  have hkeep : ∀ W W', Below W.heap.size W W' → (Below w7.heap.size w7 W ∧ W.cell? ⟨w.heap.size, 0, none⟩ = some (.slice A0_0 x0.Nodes.length C0_0) ∧ W.cell? ⟨w4.heap.size, 0, none⟩ = some (.slice Ai0_0 x0.Nodes.length Ci0_0)) → (Below w7.heap.size w7 W' ∧ W'.cell? ⟨w.heap.size, 0, none⟩ = some (.slice A0_0 x0.Nodes.length C0_0) ∧ W'.cell? ⟨w4.heap.size, 0, none⟩ = some (.slice Ai0_0 x0.Nodes.length Ci0_0)) := by
    rintro W W' hb ⟨q_0, q_1, q_2⟩
    exact ⟨below_st q_0 hb, cell_below hb q_1, cell_below hb q_2⟩
  replace hkeep := Asd.mk hkeep
  have hbs : Below w7.heap.size w7 w7.drew := (Below.refl _ _).drew
  go_wp2
  go_region_held3 (fun W => Below w7.heap.size w7 W ∧ W.cell? ⟨w.heap.size, 0, none⟩ = some (.slice A0_0 x0.Nodes.length C0_0) ∧ W.cell? ⟨w4.heap.size, 0, none⟩ = some (.slice Ai0_0 x0.Nodes.length Ci0_0)) (go_keep)
    (first | (go_at_call 18; refine (toWeb_calls x0 _ (H0.out.below (below_st HB_7.out (by assumption))) (by omega)).mono ?_; rintro e W6 ⟨us, rfl, ⟨F_, o_, n_, l_⟩, hb⟩; obtain ⟨v_0, G_0, rfl, p_0, rfl⟩ := Web.oopen o_; obtain ⟨D_0, d_0, rfl, _, _⟩ := own_slice p_0; have r6 := Asd.mk o_.rep; obtain ⟨s_0, s_1, s_2⟩ := hkeep.out _ _ hb ⟨by assumption, by first | assumption | exact c0_0, by first | assumption | exact c2_0⟩; clear hb o_ l_ p_0) | (go_at_call 21; refine (eqWeb_calls x0 x0 _ (I_i0.out.reps.below (by assumption)) r6.out).mono ?_; rintro e w8 ⟨rfl, hb⟩; obtain ⟨s_0, s_1, s_2⟩ := hkeep.out _ _ hb ⟨by assumption, by first | assumption | exact c0_0, by first | assumption | exact c2_0⟩; clear hb))
  have hF : Far 0 0 w7 w8 := Far.of_below s_0
  clear hkeep s_0 s_1 s_2 r6 hbs
  have zs8 : w7.heap.size ≤ w8.heap.size := by have := hF.size; (try simp at this); omega
  replace c0_0 : w8.cell? ⟨w.heap.size, 0, none⟩ = some (.slice A0_0 x0.Nodes.length C0_0) := by rw [hF.cell (by first | (simp; done) | (simp; omega) | omega) (by omega)]; first | exact c0_0 | go_simp
  replace c1_0 : w8.cell? ⟨w.heap.size + 1, 0, none⟩ = some (.slice A1_0 x1.Roots.length C1_0) := by rw [hF.cell (by first | (simp; done) | (simp; omega) | omega) (by omega)]; first | exact c1_0 | go_simp
  replace c1_1 : w8.cell? ⟨w.heap.size + 1, 1, none⟩ = some (.slice A1_1 x1.Runs.length C1_1) := by rw [hF.cell (by first | (simp; done) | (simp; omega) | omega) (by omega)]; first | exact c1_1 | go_simp
  replace c2_0 : w8.cell? ⟨w4.heap.size, 0, none⟩ = some (.slice Ai0_0 x0.Nodes.length Ci0_0) := by rw [hF.cell (by first | (simp; done) | (simp; omega) | omega) (by omega)]; first | exact c2_0 | go_simp
  replace c3_0 : w8.cell? ⟨w5.heap.size, 0, none⟩ = some (.slice Ai1_0 x1.Roots.length Ci1_0) := by rw [hF.cell (by first | (simp; done) | (simp; omega) | omega) (by omega)]; first | exact c3_0 | go_simp
  replace c3_1 : w8.cell? ⟨w5.heap.size, 1, none⟩ = some (.slice Ai1_1 x1.Runs.length Ci1_1) := by rw [hF.cell (by first | (simp; done) | (simp; omega) | omega) (by omega)]; first | exact c3_1 | go_simp
  replace z0 : w.heap.size < w8.heap.size := by omega
  replace z1 : w.heap.size + 1 < w8.heap.size := by omega
  replace z2 : w4.heap.size < w8.heap.size := by omega
  replace z3 : w5.heap.size < w8.heap.size := by omega
  have HB_8 := Asd.mk (Far.trans3 (HB_7.out) hF (by omega))
  replace I_w0 := Asd.mk ((I_w0.out.below (Below.refl _ _)).far hF (by omega))
  replace I_i0 := Asd.mk ((I_i0.out.below (Below.refl _ _)).far hF (by omega))
  replace I_i1 := Asd.mk ((I_i1.out.below (Below.refl _ _)).far hF (by omega))
  replace I_g0 := Asd.mk ((I_g0.out.below (Below.refl _ _)).far hF (by omega))
  clear hF
  have yx_1 : eqB x1 x1 = true := eqB_yes rfl
  have hkeep : ∀ W W', Below W.heap.size W W' → (Below w8.heap.size w8 W ∧ W.cell? ⟨w.heap.size + 1, 0, none⟩ = some (.slice A1_0 x1.Roots.length C1_0) ∧ W.cell? ⟨w.heap.size + 1, 1, none⟩ = some (.slice A1_1 x1.Runs.length C1_1) ∧ W.cell? ⟨w5.heap.size, 0, none⟩ = some (.slice Ai1_0 x1.Roots.length Ci1_0) ∧ W.cell? ⟨w5.heap.size, 1, none⟩ = some (.slice Ai1_1 x1.Runs.length Ci1_1)) → (Below w8.heap.size w8 W' ∧ W'.cell? ⟨w.heap.size + 1, 0, none⟩ = some (.slice A1_0 x1.Roots.length C1_0) ∧ W'.cell? ⟨w.heap.size + 1, 1, none⟩ = some (.slice A1_1 x1.Runs.length C1_1) ∧ W'.cell? ⟨w5.heap.size, 0, none⟩ = some (.slice Ai1_0 x1.Roots.length Ci1_0) ∧ W'.cell? ⟨w5.heap.size, 1, none⟩ = some (.slice Ai1_1 x1.Runs.length Ci1_1)) := by
    rintro W W' hb ⟨q_0, q_1, q_2, q_3, q_4⟩
    exact ⟨below_st q_0 hb, cell_below hb q_1, cell_below hb q_2, cell_below hb q_3, cell_below hb q_4⟩
  replace hkeep := Asd.mk hkeep
  have hbs : Below w8.heap.size w8 w8.drew := (Below.refl _ _).drew
  go_wp2
  go_region_held3 (fun W => Below w8.heap.size w8 W ∧ W.cell? ⟨w.heap.size + 1, 0, none⟩ = some (.slice A1_0 x1.Roots.length C1_0) ∧ W.cell? ⟨w.heap.size + 1, 1, none⟩ = some (.slice A1_1 x1.Runs.length C1_1) ∧ W.cell? ⟨w5.heap.size, 0, none⟩ = some (.slice Ai1_0 x1.Roots.length Ci1_0) ∧ W.cell? ⟨w5.heap.size, 1, none⟩ = some (.slice Ai1_1 x1.Runs.length Ci1_1)) (go_keep)
    (first | (go_at_call 19; refine (toState_calls x1 _ (H1.out.below (below_st HB_8.out (by assumption))) (by omega)).mono ?_; rintro e W6 ⟨us, rfl, ⟨F_, o_, n_, l_⟩, hb⟩; obtain ⟨v_0, G_0, v_1, G_1, rfl, p_0, p_1, rfl⟩ := State.oopen o_; obtain ⟨D_0, d_0, rfl, _, _⟩ := own_slice p_0; obtain ⟨D_1, d_1, rfl, _, _⟩ := own_slice p_1; have r6 := Asd.mk o_.rep; obtain ⟨s_0, s_1, s_2, s_3, s_4⟩ := hkeep.out _ _ hb ⟨by assumption, by first | assumption | exact c1_0, by first | assumption | exact c1_1, by first | assumption | exact c3_0, by first | assumption | exact c3_1⟩; clear hb o_ l_ p_0 p_1) | (go_at_call 22; refine (eqState_calls x1 x1 _ (I_i1.out.reps.below (by assumption)) r6.out).mono ?_; rintro e w9 ⟨rfl, hb⟩; obtain ⟨s_0, s_1, s_2, s_3, s_4⟩ := hkeep.out _ _ hb ⟨by assumption, by first | assumption | exact c1_0, by first | assumption | exact c1_1, by first | assumption | exact c3_0, by first | assumption | exact c3_1⟩; clear hb))
  have hF : Far 0 0 w8 w9 := Far.of_below s_0
  clear hkeep s_0 s_1 s_2 s_3 s_4 r6 hbs
  have zs9 : w8.heap.size ≤ w9.heap.size := by have := hF.size; (try simp at this); omega
  replace c0_0 : w9.cell? ⟨w.heap.size, 0, none⟩ = some (.slice A0_0 x0.Nodes.length C0_0) := by rw [hF.cell (by first | (simp; done) | (simp; omega) | omega) (by omega)]; first | exact c0_0 | go_simp
  replace c1_0 : w9.cell? ⟨w.heap.size + 1, 0, none⟩ = some (.slice A1_0 x1.Roots.length C1_0) := by rw [hF.cell (by first | (simp; done) | (simp; omega) | omega) (by omega)]; first | exact c1_0 | go_simp
  replace c1_1 : w9.cell? ⟨w.heap.size + 1, 1, none⟩ = some (.slice A1_1 x1.Runs.length C1_1) := by rw [hF.cell (by first | (simp; done) | (simp; omega) | omega) (by omega)]; first | exact c1_1 | go_simp
  replace c2_0 : w9.cell? ⟨w4.heap.size, 0, none⟩ = some (.slice Ai0_0 x0.Nodes.length Ci0_0) := by rw [hF.cell (by first | (simp; done) | (simp; omega) | omega) (by omega)]; first | exact c2_0 | go_simp
  replace c3_0 : w9.cell? ⟨w5.heap.size, 0, none⟩ = some (.slice Ai1_0 x1.Roots.length Ci1_0) := by rw [hF.cell (by first | (simp; done) | (simp; omega) | omega) (by omega)]; first | exact c3_0 | go_simp
  replace c3_1 : w9.cell? ⟨w5.heap.size, 1, none⟩ = some (.slice Ai1_1 x1.Runs.length Ci1_1) := by rw [hF.cell (by first | (simp; done) | (simp; omega) | omega) (by omega)]; first | exact c3_1 | go_simp
  replace z0 : w.heap.size < w9.heap.size := by omega
  replace z1 : w.heap.size + 1 < w9.heap.size := by omega
  replace z2 : w4.heap.size < w9.heap.size := by omega
  replace z3 : w5.heap.size < w9.heap.size := by omega
  have HB_9 := Asd.mk (Far.trans3 (HB_8.out) hF (by omega))
  replace I_w0 := Asd.mk ((I_w0.out.below (Below.refl _ _)).far hF (by omega))
  replace I_i0 := Asd.mk ((I_i0.out.below (Below.refl _ _)).far hF (by omega))
  replace I_i1 := Asd.mk ((I_i1.out.below (Below.refl _ _)).far hF (by omega))
  replace I_g0 := Asd.mk ((I_g0.out.below (Below.refl _ _)).far hF (by omega))
  clear hF
  go_wp2_with fail
  refine (markWeb_calls (x0) _ _ (1) _ _ (by first | rfl | omega) (I_i0.out.below (Below.refl _ _)) (by omega) (by have := ka0.out; omega)).mono ?_
  rintro e w10 ⟨he, hI, hF⟩
  rw [ka0.out] at he
  subst he
  replace hI := Asd.mk hI
  have zs10 : w9.heap.size ≤ w10.heap.size := by have := hF.size; (try simp at this); omega
  replace c0_0 : w10.cell? ⟨w.heap.size, 0, none⟩ = some (.slice A0_0 x0.Nodes.length C0_0) := by rw [hF.cell (by first | (simp; done) | (simp; omega) | omega) (by omega)]; first | exact c0_0 | go_simp
  replace c1_0 : w10.cell? ⟨w.heap.size + 1, 0, none⟩ = some (.slice A1_0 x1.Roots.length C1_0) := by rw [hF.cell (by first | (simp; done) | (simp; omega) | omega) (by omega)]; first | exact c1_0 | go_simp
  replace c1_1 : w10.cell? ⟨w.heap.size + 1, 1, none⟩ = some (.slice A1_1 x1.Runs.length C1_1) := by rw [hF.cell (by first | (simp; done) | (simp; omega) | omega) (by omega)]; first | exact c1_1 | go_simp
  replace c2_0 : w10.cell? ⟨w4.heap.size, 0, none⟩ = some (.slice Ai0_0 x0.Nodes.length Ci0_0) := by rw [hF.cell (by first | (simp; done) | (simp; omega) | omega) (by omega)]; first | exact c2_0 | go_simp
  replace c3_0 : w10.cell? ⟨w5.heap.size, 0, none⟩ = some (.slice Ai1_0 x1.Roots.length Ci1_0) := by rw [hF.cell (by first | (simp; done) | (simp; omega) | omega) (by omega)]; first | exact c3_0 | go_simp
  replace c3_1 : w10.cell? ⟨w5.heap.size, 1, none⟩ = some (.slice Ai1_1 x1.Runs.length Ci1_1) := by rw [hF.cell (by first | (simp; done) | (simp; omega) | omega) (by omega)]; first | exact c3_1 | go_simp
  replace z0 : w.heap.size < w10.heap.size := by omega
  replace z1 : w.heap.size + 1 < w10.heap.size := by omega
  replace z2 : w4.heap.size < w10.heap.size := by omega
  replace z3 : w5.heap.size < w10.heap.size := by omega
  have HB_10 := Asd.mk (Far.trans3 (HB_9.out) hF (by omega))
  replace I_w0 := Asd.mk ((I_w0.out.below (Below.refl _ _)).far hF (by omega))
  replace I_i1 := Asd.mk ((I_i1.out.below (Below.refl _ _)).far hF (by omega))
  replace I_g0 := Asd.mk ((I_g0.out.below (Below.refl _ _)).far hF (by omega))
  clear hF
  clear I_i0 hI
  go_wp2_with fail
  refine (markState_calls (x1) _ _ (KA0) _ _ (by first | rfl | omega) (I_i1.out.below (Below.refl _ _)) (by omega) (by have := ka1.out; omega)).mono ?_
  rintro e w11 ⟨he, hI, hF⟩
  rw [ka1.out] at he
  subst he
  replace hI := Asd.mk hI
  have zs11 : w10.heap.size ≤ w11.heap.size := by have := hF.size; (try simp at this); omega
  replace c0_0 : w11.cell? ⟨w.heap.size, 0, none⟩ = some (.slice A0_0 x0.Nodes.length C0_0) := by rw [hF.cell (by first | (simp; done) | (simp; omega) | omega) (by omega)]; first | exact c0_0 | go_simp
  replace c1_0 : w11.cell? ⟨w.heap.size + 1, 0, none⟩ = some (.slice A1_0 x1.Roots.length C1_0) := by rw [hF.cell (by first | (simp; done) | (simp; omega) | omega) (by omega)]; first | exact c1_0 | go_simp
  replace c1_1 : w11.cell? ⟨w.heap.size + 1, 1, none⟩ = some (.slice A1_1 x1.Runs.length C1_1) := by rw [hF.cell (by first | (simp; done) | (simp; omega) | omega) (by omega)]; first | exact c1_1 | go_simp
  replace c2_0 : w11.cell? ⟨w4.heap.size, 0, none⟩ = some (.slice Ai0_0 x0.Nodes.length Ci0_0) := by rw [hF.cell (by first | (simp; done) | (simp; omega) | omega) (by omega)]; first | exact c2_0 | go_simp
  replace c3_0 : w11.cell? ⟨w5.heap.size, 0, none⟩ = some (.slice Ai1_0 x1.Roots.length Ci1_0) := by rw [hF.cell (by first | (simp; done) | (simp; omega) | omega) (by omega)]; first | exact c3_0 | go_simp
  replace c3_1 : w11.cell? ⟨w5.heap.size, 1, none⟩ = some (.slice Ai1_1 x1.Runs.length Ci1_1) := by rw [hF.cell (by first | (simp; done) | (simp; omega) | omega) (by omega)]; first | exact c3_1 | go_simp
  replace z0 : w.heap.size < w11.heap.size := by omega
  replace z1 : w.heap.size + 1 < w11.heap.size := by omega
  replace z2 : w4.heap.size < w11.heap.size := by omega
  replace z3 : w5.heap.size < w11.heap.size := by omega
  have HB_11 := Asd.mk (Far.trans3 (HB_10.out) hF (by omega))
  replace I_w0 := Asd.mk ((I_w0.out.below (Below.refl _ _)).far hF (by omega))
  replace I_g0 := Asd.mk ((I_g0.out.below (Below.refl _ _)).far hF (by omega))
  clear hF
  clear I_i1 hI
  go_wp2_with fail
  refine (eqStringS_calls (g) (g) _ _ _ (reps_one (I_g0.out.reps.below (Below.refl _ _))) (reps_one (I_w0.out.reps.below (Below.refl _ _)))).mono ?_
  rintro e w12 ⟨rfl, hb⟩
  have hF := Far.of_below hb
  have zs12 : w11.heap.size ≤ w12.heap.size := by have := hF.size; (try simp at this); omega
  replace c0_0 : w12.cell? ⟨w.heap.size, 0, none⟩ = some (.slice A0_0 x0.Nodes.length C0_0) := by rw [hF.cell (by first | (simp; done) | (simp; omega) | omega) (by omega)]; first | exact c0_0 | go_simp
  replace c1_0 : w12.cell? ⟨w.heap.size + 1, 0, none⟩ = some (.slice A1_0 x1.Roots.length C1_0) := by rw [hF.cell (by first | (simp; done) | (simp; omega) | omega) (by omega)]; first | exact c1_0 | go_simp
  replace c1_1 : w12.cell? ⟨w.heap.size + 1, 1, none⟩ = some (.slice A1_1 x1.Runs.length C1_1) := by rw [hF.cell (by first | (simp; done) | (simp; omega) | omega) (by omega)]; first | exact c1_1 | go_simp
  replace c2_0 : w12.cell? ⟨w4.heap.size, 0, none⟩ = some (.slice Ai0_0 x0.Nodes.length Ci0_0) := by rw [hF.cell (by first | (simp; done) | (simp; omega) | omega) (by omega)]; first | exact c2_0 | go_simp
  replace c3_0 : w12.cell? ⟨w5.heap.size, 0, none⟩ = some (.slice Ai1_0 x1.Roots.length Ci1_0) := by rw [hF.cell (by first | (simp; done) | (simp; omega) | omega) (by omega)]; first | exact c3_0 | go_simp
  replace c3_1 : w12.cell? ⟨w5.heap.size, 1, none⟩ = some (.slice Ai1_1 x1.Runs.length Ci1_1) := by rw [hF.cell (by first | (simp; done) | (simp; omega) | omega) (by omega)]; first | exact c3_1 | go_simp
  replace z0 : w.heap.size < w12.heap.size := by omega
  replace z1 : w.heap.size + 1 < w12.heap.size := by omega
  replace z2 : w4.heap.size < w12.heap.size := by omega
  replace z3 : w5.heap.size < w12.heap.size := by omega
  have HB_12 := Asd.mk (Far.trans3 (HB_11.out) hF (by omega))
  replace I_w0 := Asd.mk ((I_w0.out.below (Below.refl _ _)).far hF (by omega))
  replace I_g0 := Asd.mk ((I_g0.out.below (Below.refl _ _)).far hF (by omega))
  clear hF hb
  go_wp2_with fail
  refine (markStringS_iv (g) _ _ (1) _ _ _ (by first | rfl | omega) (I_g0.out.below (Below.refl _ _)) (by omega) (by have := kg0.out; omega)).mono ?_
  rintro e w13 ⟨he, hI, hF⟩
  rw [kg0.out] at he
  subst he
  replace hI := Asd.mk hI
  have zs13 : w12.heap.size ≤ w13.heap.size := by have := hF.size; (try simp at this); omega
  replace c0_0 : w13.cell? ⟨w.heap.size, 0, none⟩ = some (.slice A0_0 x0.Nodes.length C0_0) := by rw [hF.cell (by first | (simp; done) | (simp; omega) | omega) (by omega)]; first | exact c0_0 | go_simp
  replace c1_0 : w13.cell? ⟨w.heap.size + 1, 0, none⟩ = some (.slice A1_0 x1.Roots.length C1_0) := by rw [hF.cell (by first | (simp; done) | (simp; omega) | omega) (by omega)]; first | exact c1_0 | go_simp
  replace c1_1 : w13.cell? ⟨w.heap.size + 1, 1, none⟩ = some (.slice A1_1 x1.Runs.length C1_1) := by rw [hF.cell (by first | (simp; done) | (simp; omega) | omega) (by omega)]; first | exact c1_1 | go_simp
  replace c2_0 : w13.cell? ⟨w4.heap.size, 0, none⟩ = some (.slice Ai0_0 x0.Nodes.length Ci0_0) := by rw [hF.cell (by first | (simp; done) | (simp; omega) | omega) (by omega)]; first | exact c2_0 | go_simp
  replace c3_0 : w13.cell? ⟨w5.heap.size, 0, none⟩ = some (.slice Ai1_0 x1.Roots.length Ci1_0) := by rw [hF.cell (by first | (simp; done) | (simp; omega) | omega) (by omega)]; first | exact c3_0 | go_simp
  replace c3_1 : w13.cell? ⟨w5.heap.size, 1, none⟩ = some (.slice Ai1_1 x1.Runs.length Ci1_1) := by rw [hF.cell (by first | (simp; done) | (simp; omega) | omega) (by omega)]; first | exact c3_1 | go_simp
  replace z0 : w.heap.size < w13.heap.size := by omega
  replace z1 : w.heap.size + 1 < w13.heap.size := by omega
  replace z2 : w4.heap.size < w13.heap.size := by omega
  replace z3 : w5.heap.size < w13.heap.size := by omega
  have HB_13 := Asd.mk (Far.trans3 (HB_12.out) hF (by omega))
  replace I_w0 := Asd.mk ((I_w0.out.below (Below.refl _ _)).far hF (by omega))
  clear hF
  clear I_g0
  have I_m0 := hI
  clear hI
  go_wp2_with fail
  refine (heldStringS_iv (g) _ _ (1) _ _ _ (by first | rfl | omega) (I_m0.out.below (Below.refl _ _)) (by omega) (by have := kg0.out; omega)).mono ?_
  rintro e w14 ⟨he, hb⟩
  have hF := Far.of_below hb
  rw [kg0.out] at he
  subst he
  have zs14 : w13.heap.size ≤ w14.heap.size := by have := hF.size; (try simp at this); omega
  replace c0_0 : w14.cell? ⟨w.heap.size, 0, none⟩ = some (.slice A0_0 x0.Nodes.length C0_0) := by rw [hF.cell (by first | (simp; done) | (simp; omega) | omega) (by omega)]; first | exact c0_0 | go_simp
  replace c1_0 : w14.cell? ⟨w.heap.size + 1, 0, none⟩ = some (.slice A1_0 x1.Roots.length C1_0) := by rw [hF.cell (by first | (simp; done) | (simp; omega) | omega) (by omega)]; first | exact c1_0 | go_simp
  replace c1_1 : w14.cell? ⟨w.heap.size + 1, 1, none⟩ = some (.slice A1_1 x1.Runs.length C1_1) := by rw [hF.cell (by first | (simp; done) | (simp; omega) | omega) (by omega)]; first | exact c1_1 | go_simp
  replace c2_0 : w14.cell? ⟨w4.heap.size, 0, none⟩ = some (.slice Ai0_0 x0.Nodes.length Ci0_0) := by rw [hF.cell (by first | (simp; done) | (simp; omega) | omega) (by omega)]; first | exact c2_0 | go_simp
  replace c3_0 : w14.cell? ⟨w5.heap.size, 0, none⟩ = some (.slice Ai1_0 x1.Roots.length Ci1_0) := by rw [hF.cell (by first | (simp; done) | (simp; omega) | omega) (by omega)]; first | exact c3_0 | go_simp
  replace c3_1 : w14.cell? ⟨w5.heap.size, 1, none⟩ = some (.slice Ai1_1 x1.Runs.length Ci1_1) := by rw [hF.cell (by first | (simp; done) | (simp; omega) | omega) (by omega)]; first | exact c3_1 | go_simp
  replace z0 : w.heap.size < w14.heap.size := by omega
  replace z1 : w.heap.size + 1 < w14.heap.size := by omega
  replace z2 : w4.heap.size < w14.heap.size := by omega
  replace z3 : w5.heap.size < w14.heap.size := by omega
  have HB_14 := Asd.mk (Far.trans3 (HB_13.out) hF (by omega))
  replace I_w0 := Asd.mk ((I_w0.out.below (Below.refl _ _)).far hF (by omega))
  replace I_m0 := Asd.mk ((I_m0.out.below (Below.refl _ _)).far hF (by omega))
  clear hF hb
  have hkeep := Asd.mk (show ∀ W, Below w14.heap.size w14 W → (Below w14.heap.size w14 W ∧ W.cell? ⟨w.heap.size, 0, none⟩ = some (.slice A0_0 x0.Nodes.length C0_0) ∧ W.cell? ⟨w.heap.size + 1, 0, none⟩ = some (.slice A1_0 x1.Roots.length C1_0) ∧ W.cell? ⟨w.heap.size + 1, 1, none⟩ = some (.slice A1_1 x1.Runs.length C1_1)) from fun W hb => ⟨hb, cell_below hb c0_0, cell_below hb c1_0, cell_below hb c1_1⟩)
  have s_0 : Below w14.heap.size w14 w14.drew := (Below.refl _ _).drew
  go_wp2
  go_region_held3 (fun W => Below w14.heap.size w14 W ∧ W.cell? ⟨w.heap.size, 0, none⟩ = some (.slice A0_0 x0.Nodes.length C0_0) ∧ W.cell? ⟨w.heap.size + 1, 0, none⟩ = some (.slice A1_0 x1.Roots.length C1_0) ∧ W.cell? ⟨w.heap.size + 1, 1, none⟩ = some (.slice A1_1 x1.Runs.length C1_1)) ((refine hkeep.out _ ?_; (repeat (first | (with_reducible exact Below.refl _ _) | (with_reducible exact s_0) | (with_reducible refine below_al ?_ _) | (with_reducible refine below_dr ?_ _) | (with_reducible refine below_d1 ?_) | ((with_reducible refine Below.setCell ?_ ?_ _); rotate_left; (next => first | (simp; done) | (simp; omega) | omega))))))
    (first | (go_at_call 18; refine (toWeb_calls x0 _ (H0.out.below (below_st (HB_14.out) (show Below w14.heap.size w14 _ from by repeat (first | (with_reducible exact Below.refl _ _) | (with_reducible exact s_0) | (with_reducible refine below_al ?_ _) | (with_reducible refine below_dr ?_ _) | (with_reducible refine below_d1 ?_) | ((with_reducible refine Below.setCell ?_ ?_ _); rotate_left; (next => first | (simp; done) | (simp; omega) | omega)))))) (by omega)).mono ?_; rintro e W0 ⟨us, rfl, ⟨F_, o_, n_, l_⟩, hb⟩; obtain ⟨v_0, G_0, rfl, p_0, rfl⟩ := Web.oopen o_; obtain ⟨D0_0, d0_0, rfl, _, _⟩ := own_slice p_0; have r_s0 := Asd.mk o_.rep; obtain ⟨s_0, s_1, s_2, s_3⟩ := hkeep.out _ (below_st (show Below w14.heap.size w14 _ from by repeat (first | (with_reducible exact Below.refl _ _) | (with_reducible exact s_0) | (with_reducible refine below_al ?_ _) | (with_reducible refine below_dr ?_ _) | (with_reducible refine below_d1 ?_) | ((with_reducible refine Below.setCell ?_ ?_ _); rotate_left; (next => first | (simp; done) | (simp; omega) | omega)))) hb); clear hb o_ l_ n_ p_0) | (go_at_call 19; refine (toState_calls x1 _ (H1.out.below (below_st (HB_14.out) (show Below w14.heap.size w14 _ from by repeat (first | (with_reducible exact Below.refl _ _) | (with_reducible exact s_0) | (with_reducible refine below_al ?_ _) | (with_reducible refine below_dr ?_ _) | (with_reducible refine below_d1 ?_) | ((with_reducible refine Below.setCell ?_ ?_ _); rotate_left; (next => first | (simp; done) | (simp; omega) | omega)))))) (by omega)).mono ?_; rintro e W1 ⟨us, rfl, ⟨F_, o_, n_, l_⟩, hb⟩; obtain ⟨v_0, G_0, v_1, G_1, rfl, p_0, p_1, rfl⟩ := State.oopen o_; obtain ⟨D1_0, d1_0, rfl, _, _⟩ := own_slice p_0; obtain ⟨D1_1, d1_1, rfl, _, _⟩ := own_slice p_1; have r_s1 := Asd.mk o_.rep; replace r_s0 := Asd.mk (r_s0.out.below (below_st (by repeat (first | (with_reducible exact Below.refl _ _) | (with_reducible exact Below.refl _ _) | (with_reducible refine below_al ?_ _) | (with_reducible refine below_dr ?_ _) | (with_reducible refine below_d1 ?_) | ((with_reducible refine Below.setCell ?_ ?_ _); rotate_left; (next => first | (simp; done) | (simp; omega) | omega)))) hb)); obtain ⟨s_0, s_1, s_2, s_3⟩ := hkeep.out _ (below_st (show Below w14.heap.size w14 _ from by repeat (first | (with_reducible exact Below.refl _ _) | (with_reducible exact s_0) | (with_reducible refine below_al ?_ _) | (with_reducible refine below_dr ?_ _) | (with_reducible refine below_d1 ?_) | ((with_reducible refine Below.setCell ?_ ?_ _); rotate_left; (next => first | (simp; done) | (simp; omega) | omega)))) hb); clear hb o_ l_ n_ p_0 p_1) | (go_at_call 48; refine (Waits_calls x0 x1 x2 _ (r_s0.out.below (by repeat (first | (with_reducible exact Below.refl _ _) | (with_reducible exact Below.refl _ _) | (with_reducible refine below_al ?_ _) | (with_reducible refine below_dr ?_ _) | (with_reducible refine below_d1 ?_) | ((with_reducible refine Below.setCell ?_ ?_ _); rotate_left; (next => first | (simp; done) | (simp; omega) | omega))))) (r_s1.out.below (by repeat (first | (with_reducible exact Below.refl _ _) | (with_reducible exact Below.refl _ _) | (with_reducible refine below_al ?_ _) | (with_reducible refine below_dr ?_ _) | (with_reducible refine below_d1 ?_) | ((with_reducible refine Below.setCell ?_ ?_ _); rotate_left; (next => first | (simp; done) | (simp; omega) | omega))))) (Web.zsm hz0.out) (Nat.lt_of_lt_of_le hg (below_st (HB_14.out) (show Below w14.heap.size w14 _ from by repeat (first | (with_reducible exact Below.refl _ _) | (with_reducible exact s_0) | (with_reducible refine below_al ?_ _) | (with_reducible refine below_dr ?_ _) | (with_reducible refine below_d1 ?_) | ((with_reducible refine Below.setCell ?_ ?_ _); rotate_left; (next => first | (simp; done) | (simp; omega) | omega))))).size) (cell_below (below_st (HB_14.out) (show Below w14.heap.size w14 _ from by repeat (first | (with_reducible exact Below.refl _ _) | (with_reducible exact s_0) | (with_reducible refine below_al ?_ _) | (with_reducible refine below_dr ?_ _) | (with_reducible refine below_d1 ?_) | ((with_reducible refine Below.setCell ?_ ?_ _); rotate_left; (next => first | (simp; done) | (simp; omega) | omega))))) ht)).mono ?_; rw [gx]; rintro e w15 ⟨v_, rfl, hM, hb⟩; have I_k0 : Asd (Iv _ w15.heap.size w15 ([strsT 9 g]) [v_]) := Asd.mk ((Iv.of_lie hM.lie).mono (Nat.le_refl _) (Nat.le_refl _)); obtain ⟨F_, o_, _, _⟩ := hM; obtain ⟨Ak0, Ck0, rfl, _, _⟩ := own_slice o_; clear o_; obtain ⟨s_0, s_1, s_2, s_3⟩ := hkeep.out _ (below_st (show Below w14.heap.size w14 _ from by repeat (first | (with_reducible exact Below.refl _ _) | (with_reducible exact s_0) | (with_reducible refine below_al ?_ _) | (with_reducible refine below_dr ?_ _) | (with_reducible refine below_d1 ?_) | ((with_reducible refine Below.setCell ?_ ?_ _); rotate_left; (next => first | (simp; done) | (simp; omega) | omega)))) hb); clear hb))
  have hF : Far 0 0 w14 w15 := Far.of_below s_0
  clear hkeep s_0 s_1 s_2 s_3 r_s0 r_s1
  have zs15 : w14.heap.size ≤ w15.heap.size := by have := hF.size; (try simp at this); omega
  replace c0_0 : w15.cell? ⟨w.heap.size, 0, none⟩ = some (.slice A0_0 x0.Nodes.length C0_0) := by rw [hF.cell (by first | (simp; done) | (simp; omega) | omega) (by omega)]; first | exact c0_0 | go_simp
  replace c1_0 : w15.cell? ⟨w.heap.size + 1, 0, none⟩ = some (.slice A1_0 x1.Roots.length C1_0) := by rw [hF.cell (by first | (simp; done) | (simp; omega) | omega) (by omega)]; first | exact c1_0 | go_simp
  replace c1_1 : w15.cell? ⟨w.heap.size + 1, 1, none⟩ = some (.slice A1_1 x1.Runs.length C1_1) := by rw [hF.cell (by first | (simp; done) | (simp; omega) | omega) (by omega)]; first | exact c1_1 | go_simp
  replace c2_0 : w15.cell? ⟨w4.heap.size, 0, none⟩ = some (.slice Ai0_0 x0.Nodes.length Ci0_0) := by rw [hF.cell (by first | (simp; done) | (simp; omega) | omega) (by omega)]; first | exact c2_0 | go_simp
  replace c3_0 : w15.cell? ⟨w5.heap.size, 0, none⟩ = some (.slice Ai1_0 x1.Roots.length Ci1_0) := by rw [hF.cell (by first | (simp; done) | (simp; omega) | omega) (by omega)]; first | exact c3_0 | go_simp
  replace c3_1 : w15.cell? ⟨w5.heap.size, 1, none⟩ = some (.slice Ai1_1 x1.Runs.length Ci1_1) := by rw [hF.cell (by first | (simp; done) | (simp; omega) | omega) (by omega)]; first | exact c3_1 | go_simp
  replace z0 : w.heap.size < w15.heap.size := by omega
  replace z1 : w.heap.size + 1 < w15.heap.size := by omega
  replace z2 : w4.heap.size < w15.heap.size := by omega
  replace z3 : w5.heap.size < w15.heap.size := by omega
  have HB_15 := Asd.mk (Far.trans3 (HB_14.out) hF (by omega))
  replace I_w0 := Asd.mk ((I_w0.out.below (Below.refl _ _)).far hF (by omega))
  replace I_m0 := Asd.mk ((I_m0.out.below (Below.refl _ _)).far hF (by omega))
  clear hF
  go_wp2_with fail
  refine (eqStringS_calls (g) (g) _ _ _ (reps_one (I_k0.out.reps.below (Below.refl _ _))) (reps_one (I_w0.out.reps.below (Below.refl _ _)))).mono ?_
  rintro e w16 ⟨rfl, hb⟩
  have hF := Far.of_below hb
  have zs16 : w15.heap.size ≤ w16.heap.size := by have := hF.size; (try simp at this); omega
  replace c0_0 : w16.cell? ⟨w.heap.size, 0, none⟩ = some (.slice A0_0 x0.Nodes.length C0_0) := by rw [hF.cell (by first | (simp; done) | (simp; omega) | omega) (by omega)]; first | exact c0_0 | go_simp
  replace c1_0 : w16.cell? ⟨w.heap.size + 1, 0, none⟩ = some (.slice A1_0 x1.Roots.length C1_0) := by rw [hF.cell (by first | (simp; done) | (simp; omega) | omega) (by omega)]; first | exact c1_0 | go_simp
  replace c1_1 : w16.cell? ⟨w.heap.size + 1, 1, none⟩ = some (.slice A1_1 x1.Runs.length C1_1) := by rw [hF.cell (by first | (simp; done) | (simp; omega) | omega) (by omega)]; first | exact c1_1 | go_simp
  replace c2_0 : w16.cell? ⟨w4.heap.size, 0, none⟩ = some (.slice Ai0_0 x0.Nodes.length Ci0_0) := by rw [hF.cell (by first | (simp; done) | (simp; omega) | omega) (by omega)]; first | exact c2_0 | go_simp
  replace c3_0 : w16.cell? ⟨w5.heap.size, 0, none⟩ = some (.slice Ai1_0 x1.Roots.length Ci1_0) := by rw [hF.cell (by first | (simp; done) | (simp; omega) | omega) (by omega)]; first | exact c3_0 | go_simp
  replace c3_1 : w16.cell? ⟨w5.heap.size, 1, none⟩ = some (.slice Ai1_1 x1.Runs.length Ci1_1) := by rw [hF.cell (by first | (simp; done) | (simp; omega) | omega) (by omega)]; first | exact c3_1 | go_simp
  replace z0 : w.heap.size < w16.heap.size := by omega
  replace z1 : w.heap.size + 1 < w16.heap.size := by omega
  replace z2 : w4.heap.size < w16.heap.size := by omega
  replace z3 : w5.heap.size < w16.heap.size := by omega
  have HB_16 := Asd.mk (Far.trans3 (HB_15.out) hF (by omega))
  replace I_w0 := Asd.mk ((I_w0.out.below (Below.refl _ _)).far hF (by omega))
  replace I_m0 := Asd.mk ((I_m0.out.below (Below.refl _ _)).far hF (by omega))
  replace I_k0 := Asd.mk ((I_k0.out.below (Below.refl _ _)).far hF (by omega))
  clear hF hb
  go_wp2_with fail
  refine (heldStringS_iv (g) _ _ (1) _ _ _ (by first | rfl | omega) (I_m0.out.below (Below.refl _ _)) (by omega) (by have := kg0.out; omega)).mono ?_
  rintro e w17 ⟨he, hb⟩
  have hF := Far.of_below hb
  rw [kg0.out] at he
  subst he
  have zs17 : w16.heap.size ≤ w17.heap.size := by have := hF.size; (try simp at this); omega
  replace c0_0 : w17.cell? ⟨w.heap.size, 0, none⟩ = some (.slice A0_0 x0.Nodes.length C0_0) := by rw [hF.cell (by first | (simp; done) | (simp; omega) | omega) (by omega)]; first | exact c0_0 | go_simp
  replace c1_0 : w17.cell? ⟨w.heap.size + 1, 0, none⟩ = some (.slice A1_0 x1.Roots.length C1_0) := by rw [hF.cell (by first | (simp; done) | (simp; omega) | omega) (by omega)]; first | exact c1_0 | go_simp
  replace c1_1 : w17.cell? ⟨w.heap.size + 1, 1, none⟩ = some (.slice A1_1 x1.Runs.length C1_1) := by rw [hF.cell (by first | (simp; done) | (simp; omega) | omega) (by omega)]; first | exact c1_1 | go_simp
  replace c2_0 : w17.cell? ⟨w4.heap.size, 0, none⟩ = some (.slice Ai0_0 x0.Nodes.length Ci0_0) := by rw [hF.cell (by first | (simp; done) | (simp; omega) | omega) (by omega)]; first | exact c2_0 | go_simp
  replace c3_0 : w17.cell? ⟨w5.heap.size, 0, none⟩ = some (.slice Ai1_0 x1.Roots.length Ci1_0) := by rw [hF.cell (by first | (simp; done) | (simp; omega) | omega) (by omega)]; first | exact c3_0 | go_simp
  replace c3_1 : w17.cell? ⟨w5.heap.size, 1, none⟩ = some (.slice Ai1_1 x1.Runs.length Ci1_1) := by rw [hF.cell (by first | (simp; done) | (simp; omega) | omega) (by omega)]; first | exact c3_1 | go_simp
  replace z0 : w.heap.size < w17.heap.size := by omega
  replace z1 : w.heap.size + 1 < w17.heap.size := by omega
  replace z2 : w4.heap.size < w17.heap.size := by omega
  replace z3 : w5.heap.size < w17.heap.size := by omega
  have HB_17 := Asd.mk (Far.trans3 (HB_16.out) hF (by omega))
  replace I_w0 := Asd.mk ((I_w0.out.below (Below.refl _ _)).far hF (by omega))
  replace I_m0 := Asd.mk ((I_m0.out.below (Below.refl _ _)).far hF (by omega))
  replace I_k0 := Asd.mk ((I_k0.out.below (Below.refl _ _)).far hF (by omega))
  clear hF hb
  go_wp2
  go_ret
  exact ⟨rfl, HB_17.out⟩
end Go.Proofs.YtkpkfihaihoaeaaGreatDoor.M
end
