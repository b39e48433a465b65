import Derived.Test.YtkpkfihaihoaeaaGreatDoorVsM5
import Derived.Deep.RegionWith
import Derived.Deep.RegionHeld3
set_option linter.unusedVariables false
set_option linter.unusedSimpArgs false
namespace Go.Proofs.YtkpkfihaihoaeaaGreatDoor.M
open Go.RowKit
theorem lA : type_of% @List.getElem_toArray := @List.getElem_toArray
theorem lB : type_of% @List.getElem_cons_succ := @List.getElem_cons_succ
theorem lC : type_of% @List.getElem_cons_zero := @List.getElem_cons_zero
theorem lD : type_of% @List.setIfInBounds_toArray := @List.setIfInBounds_toArray
theorem lE : type_of% @List.set_cons_zero := @List.set_cons_zero
theorem lF : type_of% @List.set_cons_succ := @List.set_cons_succ
def ins1 : List ByteArray → ByteArray → List ByteArray
 | [], x => [x]
 | y :: l, x => if ltS y x then y :: ins1 l x else if y = x then y :: l else x :: y :: l
theorem mem_ins1 {x z : ByteArray} : ∀ {l : List ByteArray}, z ∈ ins1 l x ↔ z = x ∨ z ∈ l
 | [] => by simp [ins1]
 | y :: l => by
  unfold ins1
  split
  ·rw [List.mem_cons, mem_ins1, List.mem_cons]
   constructor
   ·rintro (h | h | h) <;> simp [h]
   ·rintro (h | h | h) <;> simp [h]
  ·split
   ·rename_i h1 h2
    subst h2; simp
   ·simp
theorem ins1_asc {x : ByteArray} : ∀ {l : List ByteArray}, Asc l → Asc (ins1 l x)
 | [], _ => by simp [ins1, Asc]
 | y :: l, h => by
  obtain ⟨h1, h2⟩ := List.pairwise_cons.1 h
  unfold ins1
  split
  ·rename_i hlt
   refine List.pairwise_cons.2 ⟨fun z hz => ?_, ins1_asc h2⟩
   rcases mem_ins1.1 hz with rfl | hz
   ·exact hlt
   ·exact h1 z hz
  ·rename_i hlt
   split
   ·exact h
   ·rename_i hne
    have hxy : ltS x y = true := by
     cases hh : ltS x y with
     | true => rfl
     | false => exact absurd (ltS_tri hh (by simpa using hlt)).symm hne
    refine List.pairwise_cons.2 ⟨fun z hz => ?_, h⟩
    rcases List.mem_cons.1 hz with rfl | hz
    ·exact hxy
    ·exact ltS_trans hxy (h1 z hz)
def insS (l : List ByteArray) : List ByteArray := l.foldl ins1 []
theorem insS_aux : ∀ (l a : List ByteArray), Asc a → Asc (l.foldl ins1 a) ∧ ∀ z, z ∈ l.foldl ins1 a ↔ z ∈ l ∨ z ∈ a
 | [], a, h => ⟨h, fun z => by simp⟩
 | x :: l, a, h => by
  obtain ⟨h1, h2⟩ := insS_aux l (ins1 a x) (ins1_asc h)
  refine ⟨h1, fun z => ?_⟩
  rw [List.foldl_cons, h2, mem_ins1, List.mem_cons]
  constructor
  ·rintro (h | h | h) <;> simp [h]
  ·rintro ((h | h) | h) <;> simp [h]
theorem insS_asc (l : List ByteArray) : Asc (insS l) := (insS_aux l [] List.Pairwise.nil).1
theorem mem_insS {l : List ByteArray} {z : ByteArray} : z ∈ insS l ↔ z ∈ l := by rw [insS, (insS_aux l [] List.Pairwise.nil).2]; simp
def isOn (R : List Run) (q : ByteArray) : Bool := match runOf R q with
 | none => false
 | some x => !x.Over
def waitsRaw (W : Web) (R : List Run) (q : ByteArray) : List ByteArray := match runOf R q with
 | none => []
 | some r => if r.Over || r.Visits == 0 then [] else (stepOf W r).Asks.filter (isOn R)
def waitsL (W : Web) (R : List Run) (q : ByteArray) : List ByteArray := insS (waitsRaw W R q)
theorem waitsRaw_run {W : Web} {R : List Run} {q x : ByteArray} (h : x ∈ waitsRaw W R q) : ∃ r, runOf R x = some r ∧ r.Over = false := by
 unfold waitsRaw at h
 split at h
 ·cases h
 ·split at h
  ·cases h
  ·have := (List.mem_filter.1 h).2
   unfold isOn at this
   cases hr : runOf R x with
   | none => rw [hr] at this; cases this
   | some r => rw [hr] at this; exact ⟨r, rfl, by simpa using this⟩
theorem waits_run {W : Web} {R : List Run} {q x : ByteArray} (h : x ∈ waitsL W R q) : ∃ r, runOf R x = some r ∧ r.Over = false := waitsRaw_run (mem_insS.1 h)
theorem waits_len {W : Web} {R : List Run} (hw : checkWeb W = 0) (hR : Inv W R) (q : ByteArray) : (waitsRaw W R q).length ≤ 5 ∧ (waitsRaw W R q).Nodup := by
 unfold waitsRaw
 cases hr : runOf R q with
 | none => simp
 | some r =>
  simp only
  split
  ·simp
  ·have hm := hR.ok r (runOf_some hr).1
   obtain ⟨hl, he⟩ := stepIn_eq hm.at1 hm.at0
   obtain ⟨a1, a2, _⟩ := asks_ok (step_ok (act_ok hw hm.web) (List.getElem_mem hl))
   have hs : stepOf W r = (actOf W r.Name).Steps[r.At.toNat] := he
   rw [hs]
   exact ⟨Nat.le_trans (List.length_filter_le _ _) a1, a2.sublist List.filter_sublist⟩
theorem nodup_perm_insS : ∀ {l : List ByteArray}, l.Nodup → l.Perm (insS l) := by
 intro l h
 refine (List.perm_ext_iff_of_nodup h ?_).2 (fun x => by rw [mem_insS])
 exact List.Pairwise.imp (fun h => ltS_ne h) (insS_asc l)
section
variable (wt : ByteArray → List ByteArray) (g : ByteArray)
def wkB : Nat → ByteArray → Bool
 | 0, _ => false
 | 1, u => (wt u).any fun x => decide (x = g)
 | n + 2, u => (wt u).any fun x => ltS g x && wkB (n + 1) x
def farU : Nat → ByteArray → Nat
 | 0, _ => 0
 | n + 1, u => if farU n u = 0 then (if wkB wt g (n + 1) u then n + 1 else 0) else farU n u
end
section
variable {wt : ByteArray → List ByteArray} {g : ByteArray}
theorem farU_le : ∀ (n : Nat) (u : ByteArray), farU wt g n u ≤ n
 | 0, _ => Nat.le_refl _
 | n + 1, u => by
  have := farU_le n u
  unfold farU
  split
  ·split <;> omega
  ·omega
theorem farU_wk : ∀ {n : Nat} {u : ByteArray}, farU wt g n u ≠ 0 → wkB wt g (farU wt g n u) u = true
 | 0, _, h => absurd rfl h
 | n + 1, u, h => by
  unfold farU at h ⊢
  by_cases h0 : farU wt g n u = 0
  ·rw [if_pos h0] at h ⊢
   by_cases hw : wkB wt g (n + 1) u = true
   ·rw [if_pos hw]; exact hw
   ·rw [if_neg hw] at h; exact absurd rfl h
  ·rw [if_neg h0]; exact farU_wk h0
theorem farU_least : ∀ {n m : Nat} {u : ByteArray}, wkB wt g m u = true → m ≤ n → farU wt g n u ≠ 0 ∧ farU wt g n u ≤ m
 | 0, m, u, h, hm => by
  obtain rfl : m = 0 := by omega
  simp [wkB] at h
 | n + 1, m, u, h, hm => by
  unfold farU
  by_cases h0 : farU wt g n u = 0
  ·rw [if_pos h0]
   by_cases hmn : m ≤ n
   ·exact absurd h0 (farU_least h hmn).1
   ·obtain rfl : m = n + 1 := by omega
    rw [if_pos h]; omega
  ·rw [if_neg h0]
   refine ⟨h0, ?_⟩
   by_cases hmn : m ≤ n
   ·exact (farU_least h hmn).2
   ·have := farU_le (wt := wt) (g := g) n u; omega
theorem farU_stay {n m : Nat} {u : ByteArray} (h : farU wt g n u ≠ 0) (hm : n ≤ m) : farU wt g m u = farU wt g n u := by
  induction m with
  | zero => obtain rfl : n = 0 := by omega
            rfl
  | succ m ih =>
    by_cases e : n = m + 1
    · rw [e]
    · have := ih (by omega)
      conv => lhs; unfold farU
      rw [if_neg (by rw [this]; exact h), this]
theorem wk_level {n : Nat} {u : ByteArray} (h0 : farU wt g (n + 1) u = 0) : wkB wt g (n + 2) u = (wt u).any fun x => ltS g x && decide (farU wt g (n + 1) x = n + 1) := by
 rw [Bool.eq_iff_iff]
 simp only [wkB, List.any_eq_true, Bool.and_eq_true, decide_eq_true_eq]
 constructor
 ·rintro ⟨x, hx, hg, hk⟩
  refine ⟨x, hx, hg, ?_⟩
  obtain ⟨f1, f2⟩ := farU_least hk (Nat.le_refl _)
  by_cases e : farU wt g (n + 1) x = n + 1
  ·exact e
  ·exfalso
   obtain ⟨m, hm⟩ : ∃ m, farU wt g (n + 1) x = m + 1 := ⟨farU wt g (n + 1) x - 1, by omega⟩
   have hk2 := farU_wk f1
   rw [hm] at hk2
   have : wkB wt g (m + 2) u = true := by
    simp only [wkB, List.any_eq_true, Bool.and_eq_true]
    exact ⟨x, hx, hg, hk2⟩
   exact absurd h0 (farU_least this (by omega)).1
 ·rintro ⟨x, hx, hg, hk⟩
  refine ⟨x, hx, hg, ?_⟩
  have := farU_wk (wt := wt) (g := g) (n := n + 1) (u := x) (by omega)
  rwa [hk] at this
end
theorem nodup_sub_len : ∀ {a b : List ByteArray}, a.Nodup → (∀ x ∈ a, x ∈ b) → a.length ≤ b.length
 | [], _, _, _ => Nat.zero_le _
 | x :: a, b, h, hs => by
  obtain ⟨h1, h2⟩ := List.nodup_cons.1 h
  have hx := hs x (List.mem_cons_self ..)
  have := nodup_sub_len (a := a) (b := b.erase x) h2 (fun y hy => (List.mem_erase_of_ne (by rintro rfl; exact h1 hy)).2 (hs y (List.mem_cons_of_mem _ hy)))
  rw [List.length_erase_of_mem hx] at this
  have hp := List.length_pos_of_mem hx
  simp only [List.length_cons]; omega
theorem least_chain {wt : ByteArray → List ByteArray} {g : ByteArray} {N : List ByteArray} (hN : ∀ u, ∀ x ∈ wt u, x ∈ N) (hs : ∀ u ∈ N, True) : ∀ (n : Nat) {u : ByteArray}, u ∈ N → wkB wt g (n + 1) u = true → (∀ m, m ≤ n → wkB wt g m u = false) →
  ∃ l : List ByteArray, l.length = n + 1 ∧ l.Nodup ∧ ∀ x ∈ l, x ∈ N ∧ ∃ m, m ≤ n + 1 ∧ wkB wt g m x = true
 | 0, u, hu, hk, _ => ⟨[u], rfl, by simp, fun x hx => by simp at hx; subst hx; exact ⟨hu, 1, Nat.le_refl _, hk⟩⟩
 | n + 1, u, hu, hk, hl => by
  have hk' := hk
  simp only [wkB, List.any_eq_true, Bool.and_eq_true] at hk'
  obtain ⟨x, hx, hg, hkx⟩ := hk'
  have hlx : ∀ m, m ≤ n → wkB wt g m x = false := by
   intro m hm
   cases hq : wkB wt g m x with
   | false => rfl
   | true =>
    cases m with
    | zero => simp [wkB] at hq
    | succ m =>
     have : wkB wt g (m + 2) u = true := by
      simp only [wkB, List.any_eq_true, Bool.and_eq_true]
      exact ⟨x, hx, hg, hq⟩
     rw [hl (m + 2) (by omega)] at this; cases this
  obtain ⟨l, h1, h2, h3⟩ := least_chain hN hs n (hN u x hx) hkx hlx
  refine ⟨u :: l, by simp [h1], List.nodup_cons.2 ⟨fun h => ?_, h2⟩, fun y hy => ?_⟩
  ·obtain ⟨_, m, hm, hq⟩ := h3 u h
   rw [hl m hm] at hq; cases hq
  ·rcases List.mem_cons.1 hy with rfl | hy
   ·exact ⟨hu, n + 2, Nat.le_refl _, hk⟩
   ·obtain ⟨a, m, hm, hq⟩ := h3 y hy
    exact ⟨a, m, by omega, hq⟩
theorem farU_all {wt : ByteArray → List ByteArray} {g : ByteArray} {N : List ByteArray} (hN : ∀ u, ∀ x ∈ wt u, x ∈ N) {u : ByteArray} (hu : u ∈ N) {m : Nat} (hm : wkB wt g m u = true) : farU wt g N.length u ≠ 0 ∧ farU wt g N.length u ≤ m := by
 -- the least m
 have key : ∀ m, wkB wt g m u = true → ∃ k, k ≤ m ∧ wkB wt g k u = true ∧ ∀ j, j < k → wkB wt g j u = false := by
  intro m
  induction m using Nat.strongRecOn with
  | ind m ih =>
   intro hm
   by_cases h : ∃ j, j < m ∧ wkB wt g j u = true
   ·obtain ⟨j, hj, hjk⟩ := h
    obtain ⟨k, a, b, c⟩ := ih j hj hjk
    exact ⟨k, by omega, b, c⟩
   ·exact ⟨m, Nat.le_refl _, hm, fun j hj => by
     cases hq : wkB wt g j u with
     | false => rfl
     | true => exact absurd ⟨j, hj, hq⟩ h⟩
 obtain ⟨k, hkm, hk, hleast⟩ := key m hm
 have hkN : k ≤ N.length := by
  cases k with
  | zero => exact Nat.zero_le _
  | succ k =>
   obtain ⟨l, h1, h2, h3⟩ := least_chain hN (fun _ _ => trivial) k hu hk (fun j hj => hleast j (by omega))
   rw [← h1]
   exact nodup_sub_len h2 (fun x hx => (h3 x hx).1)
 obtain ⟨f1, f2⟩ := farU_least hk hkN
 exact ⟨f1, by omega⟩
def pathU (wt : ByteArray → List ByteArray) (g : ByteArray) (far : ByteArray → Nat) : Nat → ByteArray → List ByteArray
 | 0, _ => []
 | 1, _ => []
 | n + 2, u => match (wt u).find? (fun x => ltS g x && decide (far x = n + 1)) with
  | none => []
  | some x => x :: pathU wt g far (n + 1) x
theorem wk_find {wt : ByteArray → List ByteArray} {g : ByteArray} {B n : Nat} {u : ByteArray} (h : farU wt g B u = n + 2) : ∃ x, (wt u).find? (fun x => ltS g x && decide (farU wt g B x = n + 1)) = some x ∧ x ∈ wt u ∧ farU wt g B x = n + 1 := by
 have hk := farU_wk (wt := wt) (g := g) (n := B) (u := u) (by omega)
 rw [h] at hk
 simp only [wkB, List.any_eq_true, Bool.and_eq_true] at hk
 obtain ⟨x, hx, hg, hkx⟩ := hk
 have hB := farU_le (wt := wt) (g := g) B u
 obtain ⟨f1, f2⟩ := farU_least hkx (show n + 1 ≤ B by omega)
 have hx2 : farU wt g B x = n + 1 := by
  by_cases e : farU wt g B x = n + 1
  ·exact e
  ·exfalso
   obtain ⟨m, hm⟩ : ∃ m, farU wt g B x = m + 1 := ⟨farU wt g B x - 1, by omega⟩
   have hk2 := farU_wk f1
   rw [hm] at hk2
   have : wkB wt g (m + 2) u = true := by
    simp only [wkB, List.any_eq_true, Bool.and_eq_true]
    exact ⟨x, hx, hg, hk2⟩
   have := (farU_least this (show m + 2 ≤ B by omega)).2
   omega
 cases hf : (wt u).find? (fun x => ltS g x && decide (farU wt g B x = n + 1)) with
 | none =>
  have := List.find?_eq_none.1 hf x hx
  simp [hg, hx2] at this
 | some y =>
  have h1 := List.find?_some hf
  simp only [Bool.and_eq_true, decide_eq_true_eq] at h1
  exact ⟨y, rfl, List.mem_of_find?_eq_some hf, h1.2⟩
theorem pathU_length {wt : ByteArray → List ByteArray} {g : ByteArray} {B : Nat} : ∀ {n : Nat} {u : ByteArray}, farU wt g B u = n + 1 → (pathU wt g (farU wt g B) (n + 1) u).length = n
 | 0, _, _ => rfl
 | n + 1, u, h => by
  obtain ⟨x, hf, _, hx⟩ := wk_find h
  unfold pathU
  rw [hf]
  simp [pathU_length hx]
def circStep (wt : ByteArray → List ByteArray) (B : Nat) (best : List ByteArray) (v : ByteArray) : List ByteArray :=
 if farU wt v B v = 0 ∨ (0 < best.length ∧ best.length ≤ farU wt v B v) then best else v :: pathU wt v (farU wt v B) (farU wt v B v) v
def circleU (wt : ByteArray → List ByteArray) (N : List ByteArray) : List ByteArray := N.foldl (circStep wt N.length) []
def circleL (W : Web) (R : List Run) : List ByteArray := circleU (waitsL W R) (R.map Run.Name)
def ltTo (l : List ByteArray) (x : ByteArray) (k : Nat) : Prop := ∀ (i : Nat) (h : i < l.length), i < k → ltS l[i] x = true
theorem ltTo_zero (l : List ByteArray) (x : ByteArray) : ltTo l x 0 := fun _ _ h => by omega
theorem ltTo_succ {l : List ByteArray} {x : ByteArray} {k : Nat} (h : ltTo l x k) (hk : k < l.length) (hx : ltS l[k] x = true) : ltTo l x (k + 1) := by
 intro i hi hik
 by_cases e : i = k
 ·subst e; exact hx
 ·exact h i hi (by omega)
theorem ltTo_tail {y : ByteArray} {l : List ByteArray} {x : ByteArray} {k : Nat} (h : ltTo (y :: l) x (k + 1)) : ltS y x = true ∧ ltTo l x k :=
 ⟨h 0 (by simp) (by omega), fun i hi hik => by have := h (i + 1) (by simpa using hi) (by omega); simpa using this⟩
theorem ins1_at : ∀ {l : List ByteArray} {x : ByteArray} {k : Nat}, ltTo l x k → k ≤ l.length → (∀ h : k < l.length, ltS l[k] x = false ∧ l[k] ≠ x) → ins1 l x = l.take k ++ x :: l.drop k
 | [], x, k, _, hk, _ => by
  obtain rfl : k = 0 := by simpa using hk
  rfl
 | y :: l, x, 0, _, _, hn => by
  obtain ⟨h1, h2⟩ := hn (by simp)
  simp only [List.getElem_cons_zero] at h1 h2
  unfold ins1
  rw [h1, if_neg (by decide), if_neg h2]; rfl
 | y :: l, x, k + 1, h, hk, hn => by
  obtain ⟨h1, h2⟩ := ltTo_tail h
  unfold ins1
  rw [h1, if_pos rfl, ins1_at h2 (by simpa using hk) (fun hk2 => by have := hn (by simpa using hk2); simpa using this)]
  rfl
theorem ins1_has : ∀ {l : List ByteArray} {x : ByteArray} {k : Nat}, ltTo l x k → ∀ (hk : k < l.length), l[k] = x → ins1 l x = l
 | [], x, k, _, hk, _ => by simp at hk
 | y :: l, x, 0, _, _, he => by
  simp only [List.getElem_cons_zero] at he
  subst he
  unfold ins1
  rw [ltS_irr, if_neg (by decide), if_pos rfl]
 | y :: l, x, k + 1, h, hk, he => by
  obtain ⟨h1, h2⟩ := ltTo_tail h
  unfold ins1
  rw [h1, if_pos rfl, ins1_has h2 (by simpa using hk) (by simpa using he)]
theorem ins1_len (x : ByteArray) : ∀ (l : List ByteArray), (ins1 l x).length ≤ l.length + 1
 | [] => by simp [ins1]
 | y :: l => by
  have := ins1_len x l
  unfold ins1
  split
  ·simp only [List.length_cons]; omega
  ·split <;> simp
theorem addr_add_add (a : Addr) (m j : Nat) : (a.add m).add j = a.add (m + j) := by
 unfold Addr.add
 by_cases hm : m = 0
 ·subst hm; simp
 ·by_cases hj : j = 0
  ·subst hj; simp
  ·simp [hm, hj, show m + j ≠ 0 by omega, Nat.add_assoc]
theorem rep_drop {w : World} {t : Nat} {l : List ByteArray} {A : Option Addr} {c : Nat} (h : rep w (strsT t l) (.slice A l.length c)) {k : Nat} (hk : k ≤ l.length) : rep w (strsT t (l.drop k)) (.slice (if c = k then A else A.map (·.add (k * 1))) (l.length - k) (c - k)) := by
 simp only [strsT, tl, rep] at h ⊢
 obtain ⟨h0, h1, A', c', vs, he, hc, hr, hcl⟩ := h
 cases he
 refine ⟨by rw [length_flatMap strC 1 (fun _ => rfl)], by simp; omega, (if c = k then A else A.map (·.add (k * 1))), c - k, vs.drop k, by rw [List.length_drop], by rw [List.length_drop]; omega, ?_, fun hn => ?_⟩
 ·have := reps_drop k hr
  rw [show k = k * 1 by omega, drop_flatMap strC 1 (fun _ => rfl), Nat.mul_one] at this
  exact this
 ·simp only [List.length_drop] at hn
  obtain ⟨a, rfl, hu⟩ := hcl (by omega)
  refine ⟨a.add (k * 1), by rw [if_neg (by omega)]; rfl, fun j u hj => ?_⟩
  rw [List.getElem?_drop] at hj
  have := hu _ _ hj
  rw [Nat.mul_one, addr_add_add]
  exact this
theorem step_appStrs {w wr : World} {lo : Nat} {ops : Array Oper} {o : Oper} {a : Act} {Q : Exit → Act → World → Prop} {xs ys : List ByteArray} {v : Value} {K : Act → World → Prop} {E : Prop} (hgd : o.guard = none) {s x : Operand} (ho : o.op = .call { callee := .builtin .append, args := #[s, x], argTypes := #[25, 25] }) (hs : a.eval s = v) (hlo : lo ≤ wr.heap.size) (hown : Lie lo wr (strsT 9 xs) v) (hb : Below wr.heap.size wr w)
  {A : Option Addr} {c t : Nat} (hx : a.eval x = .slice A ys.length c) (hy : rep w (strsT t ys) (.slice A ys.length c)) (hn : xs.length + ys.length ≤ 1000000)
  (h : ∀ v' w', Lie lo w' (strsT 9 (xs ++ ys)) v' → Far lo wr.heap.size w w' → K (a.put o.dst v') w') : if Region.wanted o (yielded ops a.tmps) = true then Oper.wp Tryz.prog o a w K Q else E := by
 obtain ⟨h1, h2⟩ := strs_cells hy
 exact step_appL hgd ho Tryz.underlying25 info_str rfl (by decide) hs hlo hown hb hx h1 (by simp) (Lies.flat h2 (strC_flat _) _ (Below.refl _ _)) (by simp [maxLen]; omega) (by omega) (fun v' w' h1 h2 => h v' w' (by rw [strsT_append]; exact h1) h2)
set_option maxRecDepth 100000 in
set_option maxHeartbeats 4000000 in
theorem l6Put_calls {t : Nat} (l : List ByteArray) (x : ByteArray) (v : Value) (w : World) (h : rep w (strsT t l) v) (hl : l.length ≤ 100000) :
  Calls Tryz.prog 106 #[v, .string x] w fun e w' => ∃ v', e = .returned v' ∧ Below w.heap.size w w' ∧ ((v' = v ∧ ins1 l x = l) ∨ Made w w' (strsT 9 (ins1 l x)) v') := by
 obtain ⟨A, c, rfl, hc, _⟩ := rep_len h
 replace h := Asd.mk h
 go_enter Tryz.func106, Tryz.ntmps106
 go_wp2
 go_loop [5] (fun i => ∃ k : Nat, k ≤ l.length ∧ i = .int .i64 k ∧ ltTo l x k) (fun i => l.length - (intOf i).toNat)
 case atStart => exact ⟨0, by omega, rfl, ltTo_zero _ _⟩
 case round =>
  obtain ⟨k, hk, rfl, hA⟩ := hrel
  by_cases hlt : k < l.length
  ·obtain ⟨a, c', he, hcell⟩ := str_elem h.out hlt
   cases he
   obtain ⟨y, hy⟩ : ∃ y, l[k] = y := ⟨_, rfl⟩
   rw [hy] at hcell
   by_cases hx : ltS y x = true
   ·have hA2 := Asd.mk (ltTo_succ hA hlt (by rw [hy]; exact hx))
    have hx2 : Op.bytesLess y.toList x.toList = true := hx
    replace hx := Asd.mk hx
    replace hA := Asd.mk hA
    replace hy := Asd.mk hy
    go_wp2
    go_round
    case rel => exact ⟨k + 1, by omega, by go_num, hA2.out⟩
    case measure => simp [intOf]; omega
   ·have hx2 : Op.bytesLess y.toList x.toList = false := Bool.eq_false_iff.2 hx
    by_cases he : y = x
    ·have e1 := Asd.mk (ins1_has hA hlt (by rw [hy]; exact he))
     subst he
     have hy2 : (y.toList == y.toList) = true := by simp
     replace hx := Asd.mk hx
     replace hA := Asd.mk hA
     replace hy := Asd.mk hy
     go_wp2
     go_ret
     exact ⟨_, rfl, by repeat first|with_reducible (first|exact Below.refl _ _|refine below_al ?_ _|refine below_dr ?_ _|refine below_d1 ?_)|(with_reducible refine Below.setCell ?_ ?_ _;rotate_left;next => first|(simp;done)|(simp;omega)|omega), .inl ⟨rfl, e1.out⟩⟩
    ·have e1 := Asd.mk (ins1_at hA hk (fun h => by rw [hy]; exact ⟨Bool.eq_false_iff.2 hx, he⟩))
     have he2 : (y.toList == x.toList) = false := by rw [Bool.eq_false_iff]; exact fun h => he ((ba_eq _ _).1 h)
     replace hx := Asd.mk hx
     replace hA := Asd.mk hA
     replace hy := Asd.mk hy
     replace he := Asd.mk he
     go_upto_region 6 with (fail)
     obtain ⟨ys, hys⟩ : ∃ ys, l.take k = ys := ⟨_, rfl⟩
     obtain ⟨zs, hzs⟩ : ∃ zs, l.drop k = zs := ⟨_, rfl⟩
     have hyl := Asd.mk (show ys.length = k by rw [← hys, List.length_take]; omega)
     have hzl := Asd.mk (show zs.length = l.length - k by rw [← hzs, List.length_drop])
     rw [hys, hzs] at e1
     have hry := Asd.mk (show rep w (strsT t ys) (.slice (some a) ys.length c) by rw [hyl.out, ← hys]; exact rep_take h.out (fun _ => rfl) hk)
     have hrz := Asd.mk (show rep w (strsT t zs) (.slice (if c = k then (some a) else ((some a) : Option Addr).map (·.add (k * 1))) zs.length (c - k)) by rw [hzl.out, ← hzs]; exact rep_drop h.out hk)
     clear hys hzs
     go_wp2_with (at_builtin; refine appNew rfl rfl rfl rfl (by rw [hyl.out]; rfl) hry.out (by rw [hyl.out]; omega) ?_)
     intro v1 w1 hL1 hb1 hz1
     obtain ⟨B1, d1, rfl, _, _⟩ := hL1.slice
     replace hL1 := Asd.mk hL1
     replace hb1 := Asd.mk hb1
     go_upto_region 7 with (fail)
     refine wp_region_held_drew (S := fun Z => True) (by kernel_rfl) trivial (fun hHeld => ?_)
     (((refine wH 0 (v:=?_) rfl (by kernel_rfl) (fun _ _ _ h => h) (by rfl) ?_ (by assumption) ?_;rotate_left;next => ((intro X hX;(try dsimp only at hX);go_simp);try with_reducible rfl));try simp only [Act.put,lA,lB,lC,lD,lE,lF]); ((refine wH 1 (v:=?_) rfl (by kernel_rfl) (fun _ _ _ h => h) (by rfl) ?_ (by assumption) ?_;rotate_left;next => ((intro X hX;(try dsimp only at hX);go_simp);try with_reducible rfl));try simp only [Act.put,lA,lB,lC,lD,lE,lF]); ((refine wH 4 (v:=?_) rfl (by kernel_rfl) (fun _ _ _ h => h) (by rfl) ?_ (by assumption) ?_;rotate_left;next => ((intro X hX;(try dsimp only at hX);go_simp);try with_reducible rfl));try simp only [Act.put,lA,lB,lC,lD,lE,lF]); ((refine wH 5 (v:=?_) rfl (by kernel_rfl) (fun _ _ _ h => h) (by rfl) ?_ (by assumption) ?_;rotate_left;next => ((intro X hX;(try dsimp only at hX);go_simp);try with_reducible rfl));try simp only [Act.put,lA,lB,lC,lD,lE,lF]); ((refine wH 6 (v:=?_) rfl (by kernel_rfl) (fun _ _ _ h => h) (by rfl) ?_ (by assumption) ?_;rotate_left;next => ((intro X hX;(try dsimp only at hX);go_simp);try with_reducible rfl));try simp only [Act.put,lA,lB,lC,lD,lE,lF]))
     (refine wpAnyH_ready (rs := [2]) (by kernel_rfl) (by simp) ?_; refine AllReadyH.cons rfl (fun K hK => ?_) AllReadyH.nil)
     go_simp
     refine hK.out _ _ trivial (fun hHeld => ?_)
     clear hK K
     (try simp only [Act.put, List.setIfInBounds_toArray, List.set_cons_zero, List.set_cons_succ])
     (refine wpAnyH_ready (rs := [3]) (by kernel_rfl) (by simp) ?_; refine AllReadyH.cons rfl (fun K hK => ?_) AllReadyH.nil)
     refine step_appStr (by rfl) (by rfl) (by rfl) (lo := w.heap.size) (wr := w1) hb1.out.size hL1.out (show Below w1.heap.size w1 (w1.drew.alloc (.cells #[.string x] 9)) from by repeat first|with_reducible (first|exact Below.refl _ _|refine below_al ?_ _|refine below_dr ?_ _|refine below_d1 ?_)|(with_reducible refine Below.setCell ?_ ?_ _;rotate_left;next => first|(simp;done)|(simp;omega)|omega)) (by rfl) (show (w1.drew.alloc (.cells #[.string x] 9)).heap[w1.heap.size]? = _ from heap_alloc_new w1.drew _) (by rw [hyl.out]; omega) ?_
     intro v3 w3 hL3 hF3
     obtain ⟨B3, d3, rfl, _, _⟩ := hL3.slice
     have hb3 := Asd.mk (Far.trans (show Below w.heap.size w _ from by repeat first|with_reducible (first|exact Below.refl _ _|exact hb1.out|refine below_al ?_ _|refine below_dr ?_ _|refine below_d1 ?_)|(with_reducible refine Below.setCell ?_ ?_ _;rotate_left;next => first|(simp;done)|(simp;omega)|omega)) hF3 (Nat.le_refl _) (by have := hb1.out.size; simp; omega))
     replace hL3 := Asd.mk hL3
     clear hF3
     refine hK.out _ _ trivial (fun hHeld => ?_)
     clear hK K
     (try simp only [Act.put, List.setIfInBounds_toArray, List.set_cons_zero, List.set_cons_succ])
     (refine wpAnyH_ready (rs := [7]) (by kernel_rfl) (by simp) ?_; refine AllReadyH.cons rfl (fun K hK => ?_) AllReadyH.nil)
     refine step_appStrs (by rfl) (by rfl) (by rfl) (lo := w.heap.size) (wr := w3) hb3.out.size hL3.out (Below.refl _ _) (by rw [hzl.out]; first | rfl | (simp; done) | (simp; rfl)) (hrz.out.below hb3.out) (by rw [hzl.out, List.length_append, hyl.out]; simp; omega) ?_
     intro v4 w4 hL4 hF4
     obtain ⟨B4, d4, rfl, _, _⟩ := hL4.slice
     obtain ⟨n4, hn4⟩ : ∃ n, (ys ++ [x] ++ zs).length = n := ⟨_, rfl⟩
     rw [hn4] at hL4 ⊢
     clear hn4
     have e9 := Asd.mk (show ins1 l x = ys ++ [x] ++ zs by rw [e1.out]; simp)
     have hb4 := Asd.mk (Far.trans hb3.out hF4 (Nat.le_refl _) hb3.out.size)
     replace hL4 := Asd.mk hL4
     clear hF4
     refine hK.out _ _ trivial (fun hHeld => ?_)
     clear hK K
     (((refine wH 8 (v:=?_) rfl (by kernel_rfl) (fun _ _ _ h => h) (by rfl) ?_ (by assumption) ?_;rotate_left;next => ((intro X hX;(try dsimp only at hX);go_simp);try with_reducible rfl));try simp only [Act.put,lA,lB,lC,lD,lE,lF]))
     refine wpAnyH_done (by kernel_rfl) ?_ _
     go_wp2
     all_goals
      go_ret
      refine ⟨_, rfl, hb4.out, .inr ?_⟩
      rw [e9.out]
      exact Lie.made hL4.out
  ·obtain rfl : k = l.length := by omega
   have e1 := Asd.mk (ins1_at hA hk (fun h => absurd h hlt))
   replace hA := Asd.mk hA
   go_upto_region 6 with (fail)
   obtain ⟨ys, hys⟩ : ∃ ys, l.take l.length = ys := ⟨_, rfl⟩
   obtain ⟨zs, hzs⟩ : ∃ zs, l.drop l.length = zs := ⟨_, rfl⟩
   have hyl := Asd.mk (show ys.length = l.length by rw [← hys, List.length_take]; omega)
   have hzl := Asd.mk (show zs.length = l.length - l.length by rw [← hzs, List.length_drop])
   rw [hys, hzs] at e1
   have hry := Asd.mk (show rep w (strsT t ys) (.slice A ys.length c) by rw [hyl.out, ← hys]; exact rep_take h.out (fun _ => rfl) hk)
   have hrz := Asd.mk (show rep w (strsT t zs) (.slice (if c = l.length then A else (A : Option Addr).map (·.add (l.length * 1))) zs.length (c - l.length)) by rw [hzl.out, ← hzs]; exact rep_drop h.out hk)
   clear hys hzs
   go_wp2_with (at_builtin; refine appNew rfl rfl rfl rfl (by rw [hyl.out]; rfl) hry.out (by rw [hyl.out]; omega) ?_)
   intro v1 w1 hL1 hb1 hz1
   obtain ⟨B1, d1, rfl, _, _⟩ := hL1.slice
   replace hL1 := Asd.mk hL1
   replace hb1 := Asd.mk hb1
   go_upto_region 7 with (fail)
   refine wp_region_held_drew (S := fun Z => True) (by kernel_rfl) trivial (fun hHeld => ?_)
   (((refine wH 0 (v:=?_) rfl (by kernel_rfl) (fun _ _ _ h => h) (by rfl) ?_ (by assumption) ?_;rotate_left;next => ((intro X hX;(try dsimp only at hX);go_simp);try with_reducible rfl));try simp only [Act.put,lA,lB,lC,lD,lE,lF]); ((refine wH 1 (v:=?_) rfl (by kernel_rfl) (fun _ _ _ h => h) (by rfl) ?_ (by assumption) ?_;rotate_left;next => ((intro X hX;(try dsimp only at hX);go_simp);try with_reducible rfl));try simp only [Act.put,lA,lB,lC,lD,lE,lF]); ((refine wH 4 (v:=?_) rfl (by kernel_rfl) (fun _ _ _ h => h) (by rfl) ?_ (by assumption) ?_;rotate_left;next => ((intro X hX;(try dsimp only at hX);go_simp);try with_reducible rfl));try simp only [Act.put,lA,lB,lC,lD,lE,lF]); ((refine wH 5 (v:=?_) rfl (by kernel_rfl) (fun _ _ _ h => h) (by rfl) ?_ (by assumption) ?_;rotate_left;next => ((intro X hX;(try dsimp only at hX);go_simp);try with_reducible rfl));try simp only [Act.put,lA,lB,lC,lD,lE,lF]); ((refine wH 6 (v:=?_) rfl (by kernel_rfl) (fun _ _ _ h => h) (by rfl) ?_ (by assumption) ?_;rotate_left;next => ((intro X hX;(try dsimp only at hX);go_simp);try with_reducible rfl));try simp only [Act.put,lA,lB,lC,lD,lE,lF]))
   (refine wpAnyH_ready (rs := [2]) (by kernel_rfl) (by simp) ?_; refine AllReadyH.cons rfl (fun K hK => ?_) AllReadyH.nil)
   go_simp
   refine hK.out _ _ trivial (fun hHeld => ?_)
   clear hK K
   (try simp only [Act.put, List.setIfInBounds_toArray, List.set_cons_zero, List.set_cons_succ])
   (refine wpAnyH_ready (rs := [3]) (by kernel_rfl) (by simp) ?_; refine AllReadyH.cons rfl (fun K hK => ?_) AllReadyH.nil)
   refine step_appStr (by rfl) (by rfl) (by rfl) (lo := w.heap.size) (wr := w1) hb1.out.size hL1.out (show Below w1.heap.size w1 (w1.drew.alloc (.cells #[.string x] 9)) from by repeat first|with_reducible (first|exact Below.refl _ _|refine below_al ?_ _|refine below_dr ?_ _|refine below_d1 ?_)|(with_reducible refine Below.setCell ?_ ?_ _;rotate_left;next => first|(simp;done)|(simp;omega)|omega)) (by rfl) (show (w1.drew.alloc (.cells #[.string x] 9)).heap[w1.heap.size]? = _ from heap_alloc_new w1.drew _) (by rw [hyl.out]; omega) ?_
   intro v3 w3 hL3 hF3
   obtain ⟨B3, d3, rfl, _, _⟩ := hL3.slice
   have hb3 := Asd.mk (Far.trans (show Below w.heap.size w _ from by repeat first|with_reducible (first|exact Below.refl _ _|exact hb1.out|refine below_al ?_ _|refine below_dr ?_ _|refine below_d1 ?_)|(with_reducible refine Below.setCell ?_ ?_ _;rotate_left;next => first|(simp;done)|(simp;omega)|omega)) hF3 (Nat.le_refl _) (by have := hb1.out.size; simp; omega))
   replace hL3 := Asd.mk hL3
   clear hF3
   refine hK.out _ _ trivial (fun hHeld => ?_)
   clear hK K
   (try simp only [Act.put, List.setIfInBounds_toArray, List.set_cons_zero, List.set_cons_succ])
   (refine wpAnyH_ready (rs := [7]) (by kernel_rfl) (by simp) ?_; refine AllReadyH.cons rfl (fun K hK => ?_) AllReadyH.nil)
   refine step_appStrs (by rfl) (by rfl) (by rfl) (lo := w.heap.size) (wr := w3) hb3.out.size hL3.out (Below.refl _ _) (by rw [hzl.out]; first | rfl | (simp; done) | (simp; rfl)) (hrz.out.below hb3.out) (by rw [hzl.out, List.length_append, hyl.out]; simp; omega) ?_
   intro v4 w4 hL4 hF4
   obtain ⟨B4, d4, rfl, _, _⟩ := hL4.slice
   obtain ⟨n4, hn4⟩ : ∃ n, (ys ++ [x] ++ zs).length = n := ⟨_, rfl⟩
   rw [hn4] at hL4 ⊢
   clear hn4
   have e9 := Asd.mk (show ins1 l x = ys ++ [x] ++ zs by rw [e1.out]; simp)
   have hb4 := Asd.mk (Far.trans hb3.out hF4 (Nat.le_refl _) hb3.out.size)
   replace hL4 := Asd.mk hL4
   clear hF4
   refine hK.out _ _ trivial (fun hHeld => ?_)
   clear hK K
   (((refine wH 8 (v:=?_) rfl (by kernel_rfl) (fun _ _ _ h => h) (by rfl) ?_ (by assumption) ?_;rotate_left;next => ((intro X hX;(try dsimp only at hX);go_simp);try with_reducible rfl));try simp only [Act.put,lA,lB,lC,lD,lE,lF]))
   refine wpAnyH_done (by kernel_rfl) ?_ _
   go_wp2
   all_goals
    go_ret
    refine ⟨_, rfl, hb4.out, .inr ?_⟩
    rw [e9.out]
    exact Lie.made hL4.out
section
variable (wt : ByteArray → List ByteArray)
inductive TC : ByteArray → ByteArray → Prop where
 | base {q x : ByteArray} : x ∈ wt q → TC q x
 | step {q y x : ByteArray} : TC q y → x ∈ wt y → TC q x
end
section
variable {wt : ByteArray → List ByteArray} {N : List ByteArray}
theorem TC.trans {a b : ByteArray} (h : TC wt a b) {c : ByteArray} (k : TC wt b c) : TC wt a c := by
 induction k with
 | base h1 => exact .step h h1
 | step _ h1 ih => exact .step ih h1
end
theorem waits_names {W : Web} {R : List Run} (u x : ByteArray) (h : x ∈ waitsL W R u) : x ∈ R.map Run.Name := by
 obtain ⟨r, hr, _⟩ := waits_run h
 obtain ⟨h1, h2⟩ := runOf_some hr
 exact List.mem_map.2 ⟨r, h1, h2⟩
theorem waits_asc (W : Web) (R : List Run) (u : ByteArray) : Asc (waitsL W R u) := insS_asc _
def onTo (R : List Run) (asks : List ByteArray) (k : Nat) : List ByteArray := (asks.take k).filter (isOn R)
theorem onTo_zero (R : List Run) (asks : List ByteArray) : onTo R asks 0 = [] := rfl
theorem onTo_yes {R : List Run} {asks : List ByteArray} {k : Nat} (hk : k < asks.length) (h : isOn R asks[k] = true) : onTo R asks (k + 1) = onTo R asks k ++ [asks[k]] := by
 unfold onTo
 rw [List.take_succ_eq_append_getElem hk, List.filter_append, List.filter_cons, if_pos h]; rfl
theorem onTo_no {R : List Run} {asks : List ByteArray} {k : Nat} (hk : k < asks.length) (h : isOn R asks[k] = false) : onTo R asks (k + 1) = onTo R asks k := by
 unfold onTo
 rw [List.take_succ_eq_append_getElem hk, List.filter_append, List.filter_cons, if_neg (by rw [h]; decide)]; simp
theorem onTo_end (R : List Run) (asks : List ByteArray) : onTo R asks asks.length = asks.filter (isOn R) := by unfold onTo; rw [List.take_length]
theorem onTo_len (R : List Run) (asks : List ByteArray) (k : Nat) : (onTo R asks k).length ≤ k := by
 unfold onTo
 exact Nat.le_trans (List.length_filter_le _ _) (by simp; omega)
theorem isOn_none {R : List Run} {q : ByteArray} (h : runOf R q = none) : isOn R q = false := by unfold isOn; rw [h]
theorem isOn_some {R : List Run} {q : ByteArray} {r : Run} (h : runOf R q = some r) : isOn R q = !r.Over := by unfold isOn; rw [h]
theorem waits_none {W : Web} {R : List Run} {q : ByteArray} (h : runOf R q = none) : waitsL W R q = [] := by unfold waitsL waitsRaw; rw [h]; rfl
theorem waits_no {W : Web} {R : List Run} {q : ByteArray} {r : Run} (h : runOf R q = some r) (h2 : (r.Over || r.Visits == 0) = true) : waitsL W R q = [] := by unfold waitsL waitsRaw; rw [h]; simp only; rw [if_pos h2]; rfl
theorem waits_raw {W : Web} {R : List Run} {q : ByteArray} {r : Run} (h : runOf R q = some r) (h2 : (r.Over || r.Visits == 0) = false) : waitsRaw W R q = (stepOf W r).Asks.filter (isOn R) := by unfold waitsRaw; rw [h]; simp only; rw [if_neg (by rw [h2]; decide)]
set_option maxRecDepth 100000 in
set_option maxHeartbeats 4000000 in
theorem waits_calls {lo : Nat} (W : Web) (roots : List ByteArray) (R : List Run) (e : Nat) (F : List Nat) (q : ByteArray) (w : World) (h : Eng lo w W roots R e F) (hw : checkWeb W = 0) (hI : Inv W R) :
  Calls Tryz.prog 101 #[.pointer (some ⟨e, 0, none⟩), .string q] w (MadeV w (strsT 9 (waitsL W R q))) := by
 obtain ⟨m, nv, rv, L, Fr, W0, tN, tS, tC, hX⟩ := h
 obtain ⟨A, c, B, d, rfl, rfl, _, _, c0, c1, c2⟩ := hX.cells
 obtain ⟨ha, hn⟩ := web_asc hw
 replace ha := Asd.mk ha
 cases hr : runOf R q with
 | none =>
  have hl := hX.run_none hr
  have e1 := Asd.mk (waits_none (W := W) hr)
  clear hX hr
  go_enter Tryz.func101, Tryz.ntmps101
  go_wp2
  go_ret
  rw [e1.out]
  exact ⟨_, rfl, Lie.made (Lie.nil _ _ _ _), by repeat first|with_reducible (first|exact Below.refl _ _|refine below_al ?_ _|refine below_dr ?_ _|refine below_d1 ?_)|(with_reducible refine Below.setCell ?_ ?_ _;rotate_left;next => first|(simp;done)|(simp;omega)|omega)⟩
 | some r =>
  obtain ⟨x, hx, hxr, hl⟩ := hX.run_some hr
  have hRb := (hX.runs x hx).1
  rw [hxr] at hRb
  have y0 : w.cell? ⟨x.b, 0, none⟩ = some (.string r.Name) := cellOf hRb (i := 0) rfl
  have y1 : w.cell? ⟨x.b, 1, none⟩ = some (.bool r.Over) := cellOf hRb (i := 1) rfl
  have y4 : w.cell? ⟨x.b, 4, none⟩ = some (.int .i64 r.At) := cellOf hRb (i := 4) rfl
  have y5 : w.cell? ⟨x.b, 5, none⟩ = some (.int .i64 r.Visits) := cellOf hRb (i := 5) rfl
  clear hRb
  by_cases ho : r.Over = true
  ·have e1 := Asd.mk (waits_no (W := W) hr (by rw [ho]; rfl))
   rw [ho] at y1
   clear hX hr y0 y4 y5
   go_enter Tryz.func101, Tryz.ntmps101
   go_wp2
   go_ret
   rw [e1.out]
   exact ⟨_, rfl, Lie.made (Lie.nil _ _ _ _), by repeat first|with_reducible (first|exact Below.refl _ _|refine below_al ?_ _|refine below_dr ?_ _|refine below_d1 ?_)|(with_reducible refine Below.setCell ?_ ?_ _;rotate_left;next => first|(simp;done)|(simp;omega)|omega)⟩
  replace ho := Bool.eq_false_iff.2 ho
  rw [ho] at y1
  by_cases hv : r.Visits = 0
  ·have e1 := Asd.mk (waits_no (W := W) hr (by rw [ho, hv]; rfl))
   rw [hv] at y5
   clear hX hr y0 y4
   go_enter Tryz.func101, Tryz.ntmps101
   go_wp2
   go_ret
   rw [e1.out]
   exact ⟨_, rfl, Lie.made (Lie.nil _ _ _ _), by repeat first|with_reducible (first|exact Below.refl _ _|refine below_al ?_ _|refine below_dr ?_ _|refine below_d1 ?_)|(with_reducible refine Below.setCell ?_ ?_ _;rotate_left;next => first|(simp;done)|(simp;omega)|omega)⟩
  have hvb : (r.Visits == 0) = false := by simp [hv]
  have e1 := Asd.mk (waits_raw (W := W) hr (by rw [ho, hvb]; rfl))
  obtain ⟨w1, w2⟩ := waits_len hw hI q
  have hok := hI.ok r (runOf_some hr).1
  obtain ⟨n, hK⟩ := stepK hw hok
  rw [hK.at_] at y4
  have hnl := hK.lt
  have hweb := hok.web
  have hrn := (runOf_some hr).2
  rw [hrn] at y0 hnl hweb
  have hst : Asd (stepOf W r = (actOf W q).Steps[n]) := Asd.mk (by rw [hK.step]; subst hrn; rfl)
  have has := hK.asks
  rw [hst.out] at has
  obtain ⟨vv, hvv⟩ : ∃ v, r.Visits = v := ⟨_, rfl⟩
  rw [hvv] at y5 hvb
  have hvd : decide (vv = 0) = false := by simpa using hvb
  obtain ⟨a, ha2⟩ : ∃ a, actOf W q = a := ⟨_, rfl⟩
  rw [hst.out] at e1
  simp only [ha2] at hnl has e1
  obtain ⟨st, hst2⟩ : ∃ st, a.Steps[n] = st := ⟨_, rfl⟩
  rw [hst2] at has e1
  have hkeep := Asd.mk (show ∀ Z, Below w.heap.size w Z → (Below w.heap.size w Z ∧ Z.cell? ⟨x.b, 4, none⟩ = some (.int .i64 (n : Int))) from fun Z hb => ⟨hb, cell_below hb y4⟩)
  have s_0 : Below w.heap.size w w.drew := (Below.refl _ _).drew
  replace hX := Asd.mk hX
  replace hr := Asd.mk hr
  replace w1 := Asd.mk w1
  replace w2 := Asd.mk w2
  replace hx := Asd.mk hx
  replace hst2 := Asd.mk hst2
  replace ha2 := Asd.mk ha2
  clear hst hK hok hxr hvv hv hrn y0
  go_enter Tryz.func101, Tryz.ntmps101
  go_upto_region 5 with (fail)
  refine wp_region_held_drew (S := fun Z => Below w.heap.size w Z ∧ Z.cell? ⟨x.b, 4, none⟩ = some (.int .i64 (n : Int))) (by kernel_rfl) (hkeep.out _ s_0) (fun hHeld => ?_)
  (((refine wH 0 (v:=?_) rfl (by kernel_rfl) (fun _ _ _ h => h) (by rfl) ?_ (by assumption) ?_;rotate_left;next => ((intro X hX;(try dsimp only at hX);go_simp);try with_reducible rfl));try simp only [Act.put,lA,lB,lC,lD,lE,lF]); ((refine wH 1 (v:=?_) rfl (by kernel_rfl) (fun _ _ _ h => h) (by rfl) ?_ (by assumption) ?_;rotate_left;next => ((intro X hX;(try dsimp only at hX);go_simp);try with_reducible rfl));try simp only [Act.put,lA,lB,lC,lD,lE,lF]); ((refine wH 4 (v:=?_) rfl (by kernel_rfl) (fun _ _ _ h => h) (by rfl) ?_ (by assumption) ?_;rotate_left;next => ((intro X hX;(try dsimp only at hX);go_simp);try with_reducible rfl));try simp only [Act.put,lA,lB,lC,lD,lE,lF]); ((refine wH 5 (v:=?_) rfl (by kernel_rfl) (fun _ _ _ h => h) (by rfl) ?_ (by assumption) ?_;rotate_left;next => ((intro X hX;(try dsimp only at hX);go_simp);try with_reducible rfl));try simp only [Act.put,lA,lB,lC,lD,lE,lF]); ((refine wH 6 (v:=?_) rfl (by kernel_rfl) (fun _ _ _ h => h) (by rfl) ?_ (by assumption) ?_;rotate_left;next => ((intro X hX;(try dsimp only at hX);go_simp);try with_reducible rfl));try simp only [Act.put,lA,lB,lC,lD,lE,lF]); ((refine wH 7 (v:=?_) rfl (by kernel_rfl) (fun _ _ _ h => h) (by rfl) ?_ (by assumption) ?_;rotate_left;next => ((intro X hX;(try dsimp only at hX);go_simp);try with_reducible rfl));try simp only [Act.put,lA,lB,lC,lD,lE,lF]); ((refine wH 12 (v:=?_) rfl (by kernel_rfl) (fun _ _ _ h => h) (by rfl) ?_ (by assumption) ?_;rotate_left;next => ((intro X hX;(try dsimp only at hX);go_simp);try with_reducible rfl));try simp only [Act.put,lA,lB,lC,lD,lE,lF]))
  (refine wpAnyH_ready (rs := [2]) (by kernel_rfl) (by simp) ?_; refine AllReadyH.cons rfl (fun K hK => ?_) AllReadyH.nil)
  go_simp
  refine (action_calls q _ (hX.out.later (show Below w.heap.size w _ from by repeat first|with_reducible (first|exact Below.refl _ _|exact s_0|refine below_al ?_ _|refine below_dr ?_ _|refine below_d1 ?_)|(with_reducible refine Below.setCell ?_ ?_ _;rotate_left;next => first|(simp;done)|(simp;omega)|omega))) ha.out hn hweb).mono ?_
  rw [ha2.out]
  rintro e' w5 ⟨A5, c5, rfl, _, hst5, hb⟩
  obtain ⟨s_0, s_1⟩ := hkeep.out _ (below_st (show Below w.heap.size w _ from by repeat first|with_reducible (first|exact Below.refl _ _|exact s_0|refine below_al ?_ _|refine below_dr ?_ _|refine below_d1 ?_)|(with_reducible refine Below.setCell ?_ ?_ _;rotate_left;next => first|(simp;done)|(simp;omega)|omega)) hb)
  obtain ⟨ad, c', v0, v2, hv, k0, k1, k2, k3, k4, k5, k6, k7, k8, _⟩ := Step.elem (hst5.below hb) hnl
  cases hv
  have hfs := field_steps a.Cost (some ad) a.Steps.length c5
  rw [hst2.out] at k8
  obtain ⟨A6, c6, rfl, _, _⟩ := rep_len k8
  replace k8 := Asd.mk k8
  clear hb hst5 k1 k2 k3 k4 k5 k6 k7
  refine hK.out _ _ (hkeep.out _ s_0) (fun hHeld => ?_)
  clear hK K
  (((refine wH 3 (v:=?_) rfl (by kernel_rfl) (fun _ _ _ h => h) (by rfl) ?_ (by assumption) ?_;rotate_left;next => ((intro X hX;(try dsimp only at hX);go_simp);try with_reducible rfl));try simp only [Act.put,lA,lB,lC,lD,lE,lF]); ((refine wH 8 (v:=?_) rfl (by kernel_rfl) (fun _ _ _ h => h) (by rfl) ?_ (by assumption) ?_;rotate_left;next => ((intro X hX;(try dsimp only at hX);go_simp);try with_reducible rfl));try simp only [Act.put,lA,lB,lC,lD,lE,lF]); ((refine wH 9 (v:=?_) rfl (by kernel_rfl) (fun _ _ _ h => h) (by rfl) ?_ (by assumption) ?_;rotate_left;next => ((intro X hX;(try dsimp only at hX);go_simp);try with_reducible rfl));try simp only [Act.put,lA,lB,lC,lD,lE,lF]))
  (refine wpAnyH_ready (rs := [10]) (by kernel_rfl) (by simp) ?_; refine AllReadyH.cons rfl (fun K hK => ?_) AllReadyH.nil)
  go_simp
  refine hK.out _ _ (hkeep.out _ s_0) (fun hHeld => ?_)
  clear hK K
  (((refine wH 11 (v:=?_) rfl (by kernel_rfl) (fun _ _ _ h => h) (by rfl) ?_ (by assumption) ?_;rotate_left;next => ((intro X hX;(try dsimp only at hX);go_simp);try with_reducible rfl));try simp only [Act.put,lA,lB,lC,lD,lE,lF]))
  refine wpAnyH_done (by kernel_rfl) ?_ _
  obtain ⟨asks, hasks⟩ : ∃ asks, st.Asks = asks := ⟨_, rfl⟩
  rw [hasks] at k8 e1 has ⊢
  have hb5 := Asd.mk s_0
  have z5 := s_0.size
  clear hkeep hfs k0 y4 hHeld s_0 s_1 hst2 hasks y1 y5 hl
  go_upto_region 6 with (fail)
  go_loopw [6, 43] (fun s6 i wr => ∃ k : Nat, k ≤ asks.length ∧ i = .int .i64 k ∧ Lie w5.heap.size wr (strsT 9 (onTo R asks k)) s6 ∧ Below w5.heap.size w5 wr) (fun _ i _ => asks.length - (intOf i).toNat)
  case atStart => exact ⟨0, by omega, rfl, by rw [onTo_zero]; exact Lie.nil _ _ _ _, Below.refl _ _⟩
  case round =>
   obtain ⟨k, hk, rfl, hL, hbr⟩ := hrel
   obtain ⟨Av, cv, rfl, _, _⟩ := hL.slice
   have hlen := onTo_len R asks k
   have hbw := below_st hb5.out hbr
   by_cases hlt : k < asks.length
   ·obtain ⟨aa, c', he', hcell⟩ := str_elem (k8.out.below hbr) hlt
    cases he'
    have hXr := Asd.mk (hX.out.later hbw)
    have x0 := cell_below hbw c0
    have x2 := cell_below hbw c2
    have hzr := hbr.size
    obtain ⟨y, hy⟩ : ∃ y, asks[k] = y := ⟨_, rfl⟩
    have hyes := Asd.mk (fun h => onTo_yes (R := R) hlt h)
    have hno := Asd.mk (fun h => onTo_no (R := R) hlt h)
    rw [hy] at hcell hyes hno
    replace hL := Asd.mk hL
    replace hbr := Asd.mk hbr
    replace hbw := Asd.mk hbw
    replace hy := Asd.mk hy
    cases hry : runOf R y with
    | none =>
     have e2 := Asd.mk (hno.out (isOn_none hry))
     have hl := hXr.out.run_none hry
     clear hyes hno hry
     go_wp2
     go_roundw
     case rel => exact ⟨k + 1, by omega, by go_num, by rw [e2.out]; exact hL.out, hbr.out⟩
     case measure => simp [intOf]; omega
    | some r2 =>
     obtain ⟨x2e, hx2, hxr2, hl⟩ := hXr.out.run_some hry
     have hRb := (hXr.out.runs x2e hx2).1
     rw [hxr2] at hRb
     have y1 : wr.cell? ⟨x2e.b, 1, none⟩ = some (.bool r2.Over) := cellOf hRb (i := 1) rfl
     have hon := isOn_some hry
     clear hRb
     cases ho2 : r2.Over with
     | true =>
      rw [ho2] at y1 hon
      have e2 := Asd.mk (hno.out hon)
      clear hyes hno hry hxr2 hon ho2
      go_wp2
      go_roundw
      case rel => exact ⟨k + 1, by omega, by go_num, by rw [e2.out]; exact hL.out, hbr.out⟩
      case measure => simp [intOf]; omega
     | false =>
      rw [ho2] at y1 hon
      have e2 := Asd.mk (hyes.out hon)
      clear hyes hno hry hxr2 hon ho2
      go_wp2_with (at_builtin; refine appStr rfl rfl rfl (lo := w5.heap.size) (wr := wr) hzr hL.out (by repeat first|with_reducible (first|exact Below.refl _ _|refine below_al ?_ _|refine below_dr ?_ _|refine below_d1 ?_)|(with_reducible refine Below.setCell ?_ ?_ _;rotate_left;next => first|(simp;done)|(simp;omega)|omega)) rfl (heap_alloc_new _ _) (by omega) ?_)
      intro v7 w7 hL7 hF7
      obtain ⟨A7, d7, rfl, _, _⟩ := hL7.slice
      have hb7 := Asd.mk (Far.trans (show Below w5.heap.size w5 _ from by repeat first|with_reducible (first|exact Below.refl _ _|exact hbr.out|refine below_al ?_ _|refine below_dr ?_ _|refine below_d1 ?_)|(with_reducible refine Below.setCell ?_ ?_ _;rotate_left;next => first|(simp;done)|(simp;omega)|omega)) hF7 (Nat.le_refl _) (by simp; omega))
      replace hL7 := Asd.mk hL7
      clear hF7
      go_wp2
      go_roundw
      case rel => exact ⟨k + 1, by omega, by go_num, by rw [e2.out]; exact hL7.out, hb7.out⟩
      case measure => simp [intOf]; omega
   ·obtain rfl : k = asks.length := by omega
    have e2 := Asd.mk (show onTo R asks asks.length = waitsRaw W R q by rw [e1.out]; exact onTo_end R asks)
    rw [e2.out] at hL hlen ⊢
    obtain ⟨Fo, o1, n1, l1⟩ := hL
    replace hbw := Asd.mk hbw
    clear hbr
    go_wp2_with fail
    refine (Strings_calls _ (waitsL W R q) _ Fo _ o1 (nodup_perm_insS w2.out) (waits_asc _ _ _) (by omega)).mono ?_
    rintro e' w7 ⟨rfl, o2, hm⟩
    have hb7 := Asd.mk (MFr.upon hm hbw.out (Nat.le_refl _) (fun b hb => by have := l1 b hb; omega))
    clear hm o1
    replace o2 := Asd.mk o2
    replace l1 := Asd.mk l1
    go_wp2
    go_ret
    exact ⟨_, rfl, ⟨Fo, o2.out, n1, fun k hk => by have := l1.out k hk; omega⟩, hb7.out⟩
theorem Lie.emptyB (w : World) (e sz : Nat) {b : Nat} (hb : w.heap.size = b) : Lie w.heap.size (w.alloc (.cells #[] e)) (.l e sz 0 []) (.slice (some ⟨b, 0, none⟩) 0 0) := hb ▸ Lie.empty w e sz
theorem own_lit1 (w : World) (q : ByteArray) : own (w.alloc (.cells #[.string q] 9)) (strsT 9 [q]) (.slice (some ⟨w.heap.size, 0, none⟩) 1 1) [w.heap.size] := by
 simp only [strsT, tl, own]
 refine .inl ⟨[.string q], [], World.ownsRow_lit w #[.string q] 1 (Nat.zero_le _) (by decide) rfl, by simp [owns, strC, own], by simp [Value.ownBlock], fun k _ hk => by cases hk⟩
theorem Lie.lit1 (w : World) (q : ByteArray) : Lie w.heap.size (w.alloc (.cells #[.string q] 9)) (strsT 9 [q]) (.slice (some ⟨w.heap.size, 0, none⟩) 1 1) := ⟨_, own_lit1 w q, by simp, by simp⟩
theorem insS_snoc (l : List ByteArray) (x : ByteArray) : insS (l ++ [x]) = ins1 (insS l) x := by unfold insS; rw [List.foldl_append]; rfl
theorem insS_len (l : List ByteArray) : (insS l).length ≤ l.length := by
 have key : ∀ (l a : List ByteArray), (l.foldl ins1 a).length ≤ a.length + l.length := by
  intro l
  induction l with
  | nil => intro a; simp
  | cons x l ih =>
   intro a
   have h1 := ih (ins1 a x)
   have h2 := ins1_len x a
   simp only [List.foldl_cons, List.length_cons]; omega
 simpa [insS] using key l []
set_option maxRecDepth 100000 in
set_option maxHeartbeats 8000000 in
theorem l6Waits_calls {t tN tS tC : Nat} (W : Web) (x : State) (q : ByteArray) (w : World) {us vs : List Value} (hW : reps w (W.c tN tS tC) us) (h : reps w (State.c t x) vs) (hw : checkWeb W = 0) (hI : Inv W x.Runs) :
  Calls Tryz.prog 100 #[.agg us.toArray, .agg vs.toArray, .string q] w (MadeV w (strsT 9 (waitsL W x.Runs q))) := by
 obtain ⟨v0, rfl, h0⟩ := Web.ropen hW
 obtain ⟨A, c, rfl, _, _⟩ := rep_len h0
 obtain ⟨u0, u1, rfl, g0, g1⟩ := State.ropen h
 obtain ⟨D, k, rfl, _, _⟩ := rep_len g0
 obtain ⟨B, d, rfl, _, _⟩ := rep_len g1
 replace h0 := Asd.mk h0
 replace g1 := Asd.mk g1
 replace hW := Asd.mk hW
 replace h := Asd.mk h
 clear g0
 have hRl : x.Runs.length ≤ 60 := by have := hI.length hw; have := (checkWeb_ok hw).1; omega
 have hI0 := Asd.mk hI
 go_enter Tryz.func100, Tryz.ntmps100
 go_upto_region 2 with (fail)
 obtain ⟨X, eX⟩ : ∃ X : World, X = ((w.alloc (.cells #[.slice A W.Nodes.length c] 34)).alloc (.cells #[.slice D x.Roots.length k, .slice B x.Runs.length d] 38)).alloc (.cells #[] 9) := ⟨_, rfl⟩
 rw [← eX]
 have hbX := Asd.mk (show Below w.heap.size w X from eX ▸ by repeat first|with_reducible (first|exact Below.refl _ _|refine below_al ?_ _|refine below_dr ?_ _|refine below_d1 ?_)|(with_reducible refine Below.setCell ?_ ?_ _;rotate_left;next => first|(simp;done)|(simp;omega)|omega))
 have a0 : X.cell? ⟨w.heap.size, 0, none⟩ = some (.slice A W.Nodes.length c) := by rw [eX]; go_simp
 have b0 : X.cell? ⟨w.heap.size + 1, 0, none⟩ = some (.slice D x.Roots.length k) := by rw [eX]; go_simp
 have b1 : X.cell? ⟨w.heap.size + 1, 1, none⟩ = some (.slice B x.Runs.length d) := by rw [eX]; go_simp
 have zX : w.heap.size + 1 < X.heap.size := by rw [eX]; simp
 have hE := Asd.mk (show Lie w.heap.size X (strsT 9 []) (.slice (some ⟨w.heap.size + 1 + 1, 0, none⟩) 0 0) from eX ▸ (Lie.emptyB ((w.alloc (.cells #[.slice A W.Nodes.length c] 34)).alloc (.cells #[.slice D x.Roots.length k, .slice B x.Runs.length d] 38)) 9 1 (by simp)).mono (show w.heap.size ≤ ((w.alloc _).alloc _).heap.size by simp; omega))
 clear eX
 go_wp2_with fail
 refine (l4At_calls x q _ (h.out.below hbX.out)).mono ?_
 obtain ⟨tq, htq⟩ : ∃ tq, atR x.Runs q = tq := ⟨_, rfl⟩
 rw [htq]
 rintro e' w3 ⟨rfl, hb⟩
 replace a0 := cell_below hb a0
 replace b0 := cell_below hb b0
 replace b1 := cell_below hb b1
 have hb3 := Asd.mk (below_st hbX.out hb)
 have hE3 := Asd.mk (hE.out.below hb)
 have zX3 : w.heap.size + 1 < w3.heap.size := by have := hb.size; omega
 clear hb
 cases hr : runOf x.Runs q with
 | none =>
  have e1 := Asd.mk (waits_none (W := W) hr)
  obtain rfl : tq = -1 := by rw [← htq]; exact atR_none hr
  clear hr htq
  go_wp2
  go_ret
  rw [e1.out]
  exact ⟨_, rfl, hE3.out.made, hb3.out⟩
 | some r =>
  obtain ⟨ir, hir, hM, hri⟩ := atR_some hr
  obtain rfl : tq = (ir : Int) := by rw [← htq]; exact hM
  obtain ⟨ax, cx, v6, he, k0, k1, k2, k3, k4, k5, k6, _, _⟩ := Run.elem (g1.out.below hb3.out) hir
  cases he
  rw [hri] at k0 k1 k2 k3 k4 k5
  have hz : (ir : Int) < (x.Runs.length : Int) := by omega
  clear k0 k2 k3 k6 hM htq hri
  by_cases ho : r.Over = true
  ·have e1 := Asd.mk (waits_no (W := W) hr (by rw [ho]; rfl))
   rw [ho] at k1
   clear hr k4 k5
   go_wp2
   go_ret
   rw [e1.out]
   exact ⟨_, rfl, hE3.out.made, hb3.out⟩
  replace ho := Bool.eq_false_iff.2 ho
  rw [ho] at k1
  by_cases hv : r.Visits = 0
  ·have e1 := Asd.mk (waits_no (W := W) hr (by rw [ho, hv]; rfl))
   rw [hv] at k5
   clear hr k4
   go_wp2
   go_ret
   rw [e1.out]
   exact ⟨_, rfl, hE3.out.made, hb3.out⟩
  have hvb : (r.Visits == 0) = false := by simp [hv]
  have e1 := Asd.mk (waits_raw (W := W) hr (by rw [ho, hvb]; rfl))
  obtain ⟨_, wnd⟩ := waits_len hw hI q
  have hok := hI.ok r (runOf_some hr).1
  obtain ⟨n, hK⟩ := stepK hw hok
  rw [hK.at_] at k4
  have hrn := (runOf_some hr).2
  have hnl := hK.lt
  have hweb := hok.web
  rw [hrn] at hnl hweb
  have hst : Asd (stepOf W r = (actOf W q).Steps[n]) := Asd.mk (by rw [hK.step]; subst hrn; rfl)
  have has := hK.asks
  rw [hst.out] at has
  rw [hst.out] at e1
  obtain ⟨na, hna, hN1, hN2⟩ := node_atN hweb
  obtain ⟨a, ha⟩ : ∃ a, actOf W q = a := ⟨_, rfl⟩
  rw [ha] at hN2
  simp only [ha] at hnl has e1
  obtain ⟨ad, c', v2, hvv, _, _, n2, n3, _⟩ := Node.elem (h0.out.below hb3.out) hna
  cases hvv
  rw [hN2] at n3
  obtain ⟨A2, c2, rfl, _, _⟩ := rep_len n3
  obtain ⟨ad2, c3, w0, w2, hvv, m0, _, _, _, _, _, _, _, m8, _⟩ := Step.elem n3 hnl
  cases hvv
  obtain ⟨asks, hasks⟩ : ∃ asks, a.Steps[n].Asks = asks := ⟨_, rfl⟩
  rw [hasks] at has e1 m8
  obtain ⟨A6, c6, rfl, _, _⟩ := rep_len m8
  obtain ⟨vv, hvw⟩ : ∃ vv, r.Visits = vv := ⟨_, rfl⟩
  rw [hvw] at k5 hvb
  have hvd : decide (vv = 0) = false := by simpa using hvb
  replace m8 := Asd.mk m8
  replace hN1 := Asd.mk hN1
  replace hN2 := Asd.mk hN2
  have hnai : (na : Int) < (W.Nodes.length : Int) := by omega
  have hnli : (n : Int) < (a.Steps.length : Int) := by omega
  clear n3 hst hK hok hrn hvw hv hr ha hweb wnd hasks
  go_upto_region 5 with (fail)
  obtain ⟨Z, eZ⟩ : ∃ Z : World, Z = w3 := ⟨_, rfl⟩
  rw [← eZ] at a0 b0 b1 hb3 hE3 zX3 k1 k4 k5 n2 m0 m8 ⊢
  clear eZ
  have hkeep := Asd.mk (show ∀ Y, Below Z.heap.size Z Y → (Below Z.heap.size Z Y ∧ Y.cell? ⟨w.heap.size, 0, none⟩ = some (.slice (some ad) W.Nodes.length c) ∧ Y.cell? ⟨w.heap.size + 1, 1, none⟩ = some (.slice (some ax) x.Runs.length d) ∧ Y.cell? ⟨(ax.add (ir * 7)).block, (ax.add (ir * 7)).off + 4, none⟩ = some (.int .i64 (n : Int)) ∧ Y.cell? ⟨(ad.add (na * 3)).block, (ad.add (na * 3)).off + 2, none⟩ = some (.slice (some ad2) a.Steps.length c2) ∧ Y.cell? (ad2.add (n * 8)) = some (.slice A6 asks.length c6)) from fun Y hb => ⟨hb, cell_below hb a0, cell_below hb b1, cell_below hb k4, cell_below hb n2, cell_below hb m0⟩)
  have s_0 : Below Z.heap.size Z Z.drew := (Below.refl _ _).drew
  refine wp_region_held_drew (S := fun Y => Below Z.heap.size Z Y ∧ Y.cell? ⟨w.heap.size, 0, none⟩ = some (.slice (some ad) W.Nodes.length c) ∧ Y.cell? ⟨w.heap.size + 1, 1, none⟩ = some (.slice (some ax) x.Runs.length d) ∧ Y.cell? ⟨(ax.add (ir * 7)).block, (ax.add (ir * 7)).off + 4, none⟩ = some (.int .i64 (n : Int)) ∧ Y.cell? ⟨(ad.add (na * 3)).block, (ad.add (na * 3)).off + 2, none⟩ = some (.slice (some ad2) a.Steps.length c2) ∧ Y.cell? (ad2.add (n * 8)) = some (.slice A6 asks.length c6)) (by kernel_rfl) (hkeep.out _ s_0) (fun hHeld => ?_)
  (((refine wH 0 (v:=?_) rfl (by kernel_rfl) (fun _ _ _ h => h) (by rfl) ?_ (by assumption) ?_;rotate_left;next => ((intro X hX;(try dsimp only at hX);go_simp);try with_reducible rfl));try simp only [Act.put,lA,lB,lC,lD,lE,lF]); ((refine wH 1 (v:=?_) rfl (by kernel_rfl) (fun _ _ _ h => h) (by rfl) ?_ (by assumption) ?_;rotate_left;next => ((intro X hX;(try dsimp only at hX);go_simp);try with_reducible rfl));try simp only [Act.put,lA,lB,lC,lD,lE,lF]); ((refine wH 2 (v:=?_) rfl (by kernel_rfl) (fun _ _ _ h => h) (by rfl) ?_ (by assumption) ?_;rotate_left;next => ((intro X hX;(try dsimp only at hX);go_simp);try with_reducible rfl));try simp only [Act.put,lA,lB,lC,lD,lE,lF]); ((refine wH 3 (v:=?_) rfl (by kernel_rfl) (fun _ _ _ h => h) (by rfl) ?_ (by assumption) ?_;rotate_left;next => ((intro X hX;(try dsimp only at hX);go_simp);try with_reducible rfl));try simp only [Act.put,lA,lB,lC,lD,lE,lF]); ((refine wH 9 (v:=?_) rfl (by kernel_rfl) (fun _ _ _ h => h) (by rfl) ?_ (by assumption) ?_;rotate_left;next => ((intro X hX;(try dsimp only at hX);go_simp);try with_reducible rfl));try simp only [Act.put,lA,lB,lC,lD,lE,lF]); ((refine wH 10 (v:=?_) rfl (by kernel_rfl) (fun _ _ _ h => h) (by rfl) ?_ (by assumption) ?_;rotate_left;next => ((intro X hX;(try dsimp only at hX);go_simp);try with_reducible rfl));try simp only [Act.put,lA,lB,lC,lD,lE,lF]); ((refine wH 11 (v:=?_) rfl (by kernel_rfl) (fun _ _ _ h => h) (by rfl) ?_ (by assumption) ?_;rotate_left;next => ((intro X hX;(try dsimp only at hX);go_simp);try with_reducible rfl));try simp only [Act.put,lA,lB,lC,lD,lE,lF]); ((refine wH 12 (v:=?_) rfl (by kernel_rfl) (fun _ _ _ h => h) (by rfl) ?_ (by assumption) ?_;rotate_left;next => ((intro X hX;(try dsimp only at hX);go_simp);try with_reducible rfl));try simp only [Act.put,lA,lB,lC,lD,lE,lF]); ((refine wH 13 (v:=?_) rfl (by kernel_rfl) (fun _ _ _ h => h) (by rfl) ?_ (by assumption) ?_;rotate_left;next => ((intro X hX;(try dsimp only at hX);go_simp);try with_reducible rfl));try simp only [Act.put,lA,lB,lC,lD,lE,lF]); ((refine wH 14 (v:=?_) rfl (by kernel_rfl) (fun _ _ _ h => h) (by rfl) ?_ (by assumption) ?_;rotate_left;next => ((intro X hX;(try dsimp only at hX);go_simp);try with_reducible rfl));try simp only [Act.put,lA,lB,lC,lD,lE,lF]))
  (refine wpAnyH_ready (rs := [4]) (by kernel_rfl) (by simp) ?_; refine AllReadyH.cons rfl (fun K hK => ?_) AllReadyH.nil)
  go_simp
  refine (l2At_calls W q _ (Web.rmk W (h0.out.below (below_st hb3.out (show Below Z.heap.size Z _ from by repeat first|with_reducible (first|exact Below.refl _ _|exact s_0|refine below_al ?_ _|refine below_dr ?_ _|refine below_d1 ?_)|(with_reducible refine Below.setCell ?_ ?_ _;rotate_left;next => first|(simp;done)|(simp;omega)|omega)))))).mono ?_
  rw [hN1.out]
  rintro e' w6 ⟨rfl, hb⟩
  have hb6 := Asd.mk (below_st (show Below Z.heap.size Z _ from by repeat first|with_reducible (first|exact Below.refl _ _|exact s_0|refine below_al ?_ _|refine below_dr ?_ _|refine below_d1 ?_)|(with_reducible refine Below.setCell ?_ ?_ _;rotate_left;next => first|(simp;done)|(simp;omega)|omega)) hb)
  clear hb s_0
  have s_0 := hb6.out
  refine hK.out _ _ (hkeep.out _ s_0) (fun hHeld => ?_)
  clear hK K
  (((refine wH 5 (v:=?_) rfl (by kernel_rfl) (fun _ _ _ h => h) (by rfl) ?_ (by assumption) ?_;rotate_left;next => ((intro X hX;(try dsimp only at hX);go_simp);try with_reducible rfl));try simp only [Act.put,lA,lB,lC,lD,lE,lF]); ((refine wH 6 (v:=?_) rfl (by kernel_rfl) (fun _ _ _ h => h) (by rfl) ?_ (by assumption) ?_;rotate_left;next => ((intro X hX;(try dsimp only at hX);go_simp);try with_reducible rfl));try simp only [Act.put,lA,lB,lC,lD,lE,lF]); ((refine wH 7 (v:=?_) rfl (by kernel_rfl) (fun _ _ _ h => h) (by rfl) ?_ (by assumption) ?_;rotate_left;next => ((intro X hX;(try dsimp only at hX);go_simp);try with_reducible rfl));try simp only [Act.put,lA,lB,lC,lD,lE,lF]); ((refine wH 8 (v:=?_) rfl (by kernel_rfl) (fun _ _ _ h => h) (by rfl) ?_ (by assumption) ?_;rotate_left;next => ((intro X hX;(try dsimp only at hX);go_simp);try with_reducible rfl));try simp only [Act.put,lA,lB,lC,lD,lE,lF]); ((refine wH 15 (v:=?_) rfl (by kernel_rfl) (fun _ _ _ h => h) (by rfl) ?_ (by assumption) ?_;rotate_left;next => ((intro X hX;(try dsimp only at hX);go_simp);try with_reducible rfl));try simp only [Act.put,lA,lB,lC,lD,lE,lF]); ((refine wH 16 (v:=?_) rfl (by kernel_rfl) (fun _ _ _ h => h) (by rfl) ?_ (by assumption) ?_;rotate_left;next => ((intro X hX;(try dsimp only at hX);go_simp);try with_reducible rfl));try simp only [Act.put,lA,lB,lC,lD,lE,lF]); ((refine wH 17 (v:=?_) rfl (by kernel_rfl) (fun _ _ _ h => h) (by rfl) ?_ (by assumption) ?_;rotate_left;next => ((intro X hX;(try dsimp only at hX);go_simp);try with_reducible rfl));try simp only [Act.put,lA,lB,lC,lD,lE,lF]); ((refine wH 18 (v:=?_) rfl (by kernel_rfl) (fun _ _ _ h => h) (by rfl) ?_ (by assumption) ?_;rotate_left;next => ((intro X hX;(try dsimp only at hX);go_simp);try with_reducible rfl));try simp only [Act.put,lA,lB,lC,lD,lE,lF]))
  refine wpAnyH_done (by kernel_rfl) ?_ _
  have hb5 := Asd.mk (below_st hb3.out hb6.out)
  replace b0 := cell_below hb6.out b0
  replace b1 := cell_below hb6.out b1
  replace m8 := Asd.mk (m8.out.below hb6.out)
  replace hE3 := Asd.mk (hE3.out.below hb6.out)
  have zX6 : w.heap.size + 1 < w6.heap.size := by have := hb6.out.size; omega
  clear hkeep hHeld s_0 a0 k1 k4 k5 n2 m0
  go_upto_region 6 with (fail)
  obtain ⟨Y, eY⟩ : ∃ Y : World, Y = w6 := ⟨_, rfl⟩
  rw [← eY] at hb5 b0 b1 m8 hE3 zX6 ⊢
  clear eY hb6
  go_wp2
  go_loopw [7, 10] (fun s7 i wr => ∃ kk : Nat, kk ≤ asks.length ∧ i = .int .i64 kk ∧ Lie w.heap.size wr (strsT 9 (insS (onTo x.Runs asks kk))) s7 ∧ Below Y.heap.size Y wr) (fun _ i _ => asks.length - (intOf i).toNat)
  case atStart => exact ⟨0, by omega, rfl, by rw [onTo_zero]; exact hE3.out, Below.refl _ _⟩
  case round =>
   obtain ⟨kk, hk, rfl, hL, hbr⟩ := hrel
   obtain ⟨Av, cv, rfl, _, _⟩ := hL.slice
   have hlen := onTo_len x.Runs asks kk
   have hlen2 := insS_len (onTo x.Runs asks kk)
   have hbw := below_st hb5.out hbr
   by_cases hlt : kk < asks.length
   ·obtain ⟨aa, c', he', hcell⟩ := str_elem (m8.out.below hbr) hlt
    cases he'
    have b0r := cell_below hbr b0
    have b1r := cell_below hbr b1
    have hzr := hbr.size
    obtain ⟨y, hy⟩ : ∃ y, asks[kk] = y := ⟨_, rfl⟩
    have hyes := Asd.mk (fun h => onTo_yes (R := x.Runs) hlt h)
    have hno := Asd.mk (fun h => onTo_no (R := x.Runs) hlt h)
    rw [hy] at hcell hyes hno
    replace hL := Asd.mk hL
    replace hbr := Asd.mk hbr
    replace hbw := Asd.mk hbw
    replace hy := Asd.mk hy
    go_upto_region 9 with (fail)
    go_still_tail 5, (by kernel_rfl)
    change wpList _ _ _ _ _ wr.drew
    go_wp2_with fail
    refine (l4At_calls x y _ (h.out.below (hbw.out.trans ((show Below wr.heap.size wr _ from by repeat first|with_reducible (first|exact Below.refl _ _|refine below_al ?_ _|refine below_dr ?_ _|refine below_d1 ?_)|(with_reducible refine Below.setCell ?_ ?_ _;rotate_left;next => first|(simp;done)|(simp;omega)|omega)).mono hbw.out.size)))).mono ?_
    obtain ⟨ty, hty⟩ : ∃ ty, atR x.Runs y = ty := ⟨_, rfl⟩
    rw [hty]
    rintro e' w7 ⟨rfl, hb⟩
    have hb7 := Asd.mk (below_st (show Below wr.heap.size wr _ from by repeat first|with_reducible (first|exact Below.refl _ _|refine below_al ?_ _|refine below_dr ?_ _|refine below_d1 ?_)|(with_reducible refine Below.setCell ?_ ?_ _;rotate_left;next => first|(simp;done)|(simp;omega)|omega)) hb)
    replace b0r := cell_below hb7.out b0r
    replace b1r := cell_below hb7.out b1r
    replace hcell := cell_below hb7.out hcell
    have hL7 := Asd.mk (hL.out.below hb7.out)
    have hb7Y := Asd.mk (below_st hbr.out hb7.out)
    clear hb
    cases hry : runOf x.Runs y with
    | none =>
     have e2 := Asd.mk (hno.out (isOn_none hry))
     obtain rfl : ty = -1 := by rw [← hty]; exact atR_none hry
     clear hyes hno hry hty
     go_wp2
     go_roundw
     case rel => exact ⟨kk + 1, by omega, by go_num, by rw [e2.out]; exact hL7.out, hb7Y.out⟩
     case measure => simp [intOf]; omega
    | some r2 =>
     obtain ⟨iy, hiy, hMy, hyi⟩ := atR_some hry
     obtain rfl : ty = (iy : Int) := by rw [← hty]; exact hMy
     obtain ⟨ay, cy, v7, he, _, k1, _⟩ := Run.elem (g1.out.below (hbw.out.trans (hb7.out.mono hbw.out.size))) hiy
     cases he
     rw [hyi] at k1
     have hzy : (iy : Int) < (x.Runs.length : Int) := by omega
     have hzy0 : decide ((0 : Int) ≤ (iy : Int)) = true := by simp
     have hon := isOn_some hry
     clear hMy hty hyi
     cases ho2 : r2.Over with
     | true =>
      rw [ho2] at k1 hon
      have e2 := Asd.mk (hno.out hon)
      clear hyes hno hry hon ho2
      go_wp2
      go_roundw
      case rel => exact ⟨kk + 1, by omega, by go_num, by rw [e2.out]; exact hL7.out, hb7Y.out⟩
      case measure => simp [intOf]; omega
     | false =>
      rw [ho2] at k1 hon
      have e2 := Asd.mk (hyes.out hon)
      clear hyes hno hry hon ho2
      go_wp2_with fail
      refine (l6Put_calls _ y _ _ (hL7.out.rep.below (by repeat first|with_reducible (first|exact Below.refl _ _|refine below_al ?_ _|refine below_dr ?_ _|refine below_d1 ?_)|(with_reducible refine Below.setCell ?_ ?_ _;rotate_left;next => first|(simp;done)|(simp;omega)|omega))) (by omega)).mono ?_
      rintro e' w9 ⟨v9, rfl, hb, hv9⟩
      have hb79 : Below w7.heap.size w7 w9 := by repeat first|with_reducible (first|exact Below.refl _ _|exact hb|refine below_al ?_ _|refine below_dr ?_ _|refine below_d1 ?_)|(with_reducible refine Below.setCell ?_ ?_ _;rotate_left;next => first|(simp;done)|(simp;omega)|omega)
      have hL9 : Asd (Lie w.heap.size w9 (strsT 9 (insS (onTo x.Runs asks (kk + 1)))) v9) := Asd.mk (by
       rw [e2.out, insS_snoc]
       rcases hv9 with ⟨rfl, h1⟩ | h1
       ·rw [h1]; exact hL7.out.below hb79
       ·exact h1.lie.mono (Nat.le_trans hbw.out.size (show wr.heap.size ≤ w7.heap.size from hb7.out.size)))
      have hb9 := Asd.mk (below_st hb7Y.out hb79)
      clear hb hv9 hb79
      go_wp2
      go_roundw
      case rel => exact ⟨kk + 1, by omega, by go_num, hL9.out, hb9.out⟩
      case measure => simp [intOf]; omega
   ·obtain rfl : kk = asks.length := by omega
    have e2 := Asd.mk (show insS (onTo x.Runs asks asks.length) = waitsL W x.Runs q by unfold waitsL; rw [e1.out, onTo_end])
    replace hL := Asd.mk hL
    replace hbw := Asd.mk hbw
    clear hbr
    go_wp2
    go_ret
    rw [← e2.out]
    exact ⟨_, rfl, hL.out.made, hbw.out⟩
def stpN (n i j : Nat) : Nat := if j < i then n else n - 1
theorem stp_lt {n i j : Nat} (h : j < i) : stpN n i j = n := if_pos h
theorem stp_next {n i j : Nat} (h : j ≠ i) : stpN n (i + 1) j = stpN n i j := by
 unfold stpN
 by_cases h2 : j < i
 ·rw [if_pos (by omega), if_pos h2]
 ·rw [if_neg (by omega), if_neg h2]
theorem stp_ge {n i j : Nat} (h : ¬j < i) : stpN n i j = n - 1 := if_neg h
section
variable (wt : ByteArray → List ByteArray) (g : ByteArray) (N : List ByteArray)
def farV (n i j : Nat) : Int := if ltS (N.getD j ⟨#[]⟩) g then 0 else ((farU wt g (stpN n i j) (N.getD j ⟨#[]⟩) : Nat) : Int)
def farL (n i : Nat) : List Int := (List.range N.length).map (farV wt g N n i)
def condS (n : Nat) (x : ByteArray) : Bool := if n = 1 then decide (x = g) else ltS g x && decide (farU wt g (n - 1) x = n - 1)
def anyS (n : Nat) (l : List ByteArray) (k : Nat) : Bool := (l.take k).any (condS wt g n)
def farF : List Int := farL wt g N (N.length + 1) 0
end
section
variable {wt : ByteArray → List ByteArray} {g : ByteArray} {N : List ByteArray}
theorem getD_at0 {l : List ByteArray} {i : Nat} (h : i < l.length) : l.getD i ⟨#[]⟩ = l[i] := by rw [List.getD_eq_getElem?_getD, List.getElem?_eq_getElem h]; rfl
theorem farL_length (n i : Nat) : (farL wt g N n i).length = N.length := by unfold farL; simp
theorem farL_get {n i j : Nat} (h : j < N.length) (h' : j < (farL wt g N n i).length) : (farL wt g N n i)[j] = farV wt g N n i j := by simp [farL]
theorem farL_ext {n i n2 i2 : Nat} (h : ∀ j, j < N.length → farV wt g N n i j = farV wt g N n2 i2 j) : farL wt g N n i = farL wt g N n2 i2 := by
 unfold farL
 exact List.map_congr_left fun j hj => h j (by simpa using hj)
theorem farL_zero : farL wt g N 1 0 = List.replicate N.length 0 := by
 refine List.ext_getElem (by rw [farL_length]; simp) fun j h1 h2 => ?_
 rw [farL_get (by rwa [farL_length] at h1) h1]
 unfold farV
 simp [farU, stpN]
theorem farL_row (n : Nat) : farL wt g N n N.length = farL wt g N (n + 1) 0 := farL_ext fun j hj => by
 unfold farV
 rw [stp_lt hj, stp_ge (by omega)]; rfl
theorem farL_skip {n i : Nat} (hi : i < N.length) (h : ltS N[i] g = true ∨ farU wt g (n - 1) N[i] ≠ 0) : farL wt g N n (i + 1) = farL wt g N n i := farL_ext fun j hj => by
 unfold farV
 by_cases e : j = i
 ·subst e
  rw [getD_at0 hj]
  rcases h with h | h
  ·rw [if_pos h, if_pos h]
  ·rw [stp_lt (by omega), stp_ge (show ¬j < j by omega), farU_stay h (by omega)]
 ·rw [stp_next e]
theorem farL_set {n i : Nat} (hi : i < N.length) (hn : 1 ≤ n) (h1 : ltS N[i] g = false) (h2 : farU wt g (n - 1) N[i] = 0) : (farL wt g N n i).set i (if wkB wt g n N[i] then (n : Int) else 0) = farL wt g N n (i + 1) := by
 refine List.ext_getElem (by rw [List.length_set, farL_length, farL_length]) fun j h3 h4 => ?_
 rw [farL_length] at h4
 rw [List.getElem_set]
 by_cases e : i = j
 ·subst e
  rw [if_pos rfl, farL_get h4]
  have e9 : farV wt g N n (i + 1) i = if wkB wt g n N[i] = true then (n : Int) else 0 := by
   unfold farV
   rw [getD_at0 h4, if_neg (by rw [h1]; decide), stp_lt (by omega)]
   obtain ⟨m, rfl⟩ : ∃ m, n = m + 1 := ⟨n - 1, by omega⟩
   simp only [Nat.add_sub_cancel] at h2
   unfold farU
   rw [if_pos h2]
   by_cases hw : wkB wt g (m + 1) N[i] = true
   ·rw [if_pos hw, if_pos hw]
   ·rw [if_neg hw, if_neg hw]; rfl
  rw [e9]
 ·rw [if_neg e, farL_get h4, farL_get h4]
  unfold farV
  rw [stp_next (fun h => e h.symm)]
theorem wk_any {n : Nat} (hn : 1 ≤ n) {u : ByteArray} (h2 : farU wt g (n - 1) u = 0) : wkB wt g n u = (wt u).any (condS wt g n) := by
 obtain ⟨m, rfl⟩ : ∃ m, n = m + 1 := ⟨n - 1, by omega⟩
 cases m with
 | zero => rfl
 | succ m =>
  rw [wk_level h2]
  rfl
theorem anyS_succ {n : Nat} {l : List ByteArray} {k : Nat} (h : k < l.length) : anyS wt g n l (k + 1) = (anyS wt g n l k || condS wt g n l[k]) := by
 unfold anyS
 rw [List.take_succ_eq_append_getElem h, List.any_append]; simp
theorem anyS_end (n : Nat) (l : List ByteArray) : anyS wt g n l l.length = l.any (condS wt g n) := by unfold anyS; rw [List.take_length]
theorem farF_get {j : Nat} (h : j < N.length) (h' : j < (farF wt g N).length) (hg : ltS N[j] g = false) : (farF wt g N)[j] = ((farU wt g N.length N[j] : Nat) : Int) := by
 unfold farF at h' ⊢
 rw [farL_get h]
 unfold farV
 rw [getD_at0 h, if_neg (by rw [hg]; decide), stp_ge (by omega)]; rfl
theorem farF_length : (farF wt g N).length = N.length := farL_length _ _
theorem farV_prev {n i j : Nat} (hn : 2 ≤ n) (hj : j < N.length) (hg : ltS N[j] g = false) : (farV wt g N n i j == (n : Int) - 1) = decide (farU wt g (n - 1) N[j] = n - 1) := by
 unfold farV
 rw [getD_at0 hj, if_neg (by rw [hg]; decide)]
 obtain ⟨m, rfl⟩ : ∃ m, n = m + 2 := ⟨n - 2, by omega⟩
 by_cases h : j < i
 ·rw [stp_lt h]
  have key : farU wt g (m + 2) N[j] = m + 1 ↔ farU wt g (m + 1) N[j] = m + 1 := by
   conv => lhs; lhs; unfold farU
   by_cases h0 : farU wt g (m + 1) N[j] = 0
   ·rw [if_pos h0, h0]
    split <;> simp
   ·rw [if_neg h0]
  rw [Bool.eq_iff_iff, beq_iff_eq, decide_eq_true_eq]
  show _ ↔ farU wt g (m + 1) N[j] = m + 1
  rw [← key]; omega
 ·rw [stp_ge h, Bool.eq_iff_iff, beq_iff_eq, decide_eq_true_eq]
  show ((farU wt g (m + 1) N[j] : Nat) : Int) = _ ↔ farU wt g (m + 1) N[j] = m + 1
  omega
theorem far_prev {n i jx : Nat} (hn : 2 ≤ n) (hi : i < N.length) (hj : jx < N.length) (hg : ltS N[jx] g = false) (h0 : farU wt g (n - 1) N[i] = 0) {v : Int} (hv : v = n ∨ v = 0) (h' : jx < ((farL wt g N n i).set i v).length) : (((farL wt g N n i).set i v)[jx] == (n : Int) - 1) = decide (farU wt g (n - 1) N[jx] = n - 1) := by
 rw [List.getElem_set]
 by_cases e : i = jx
 ·subst e
  rw [if_pos rfl, h0, Bool.eq_iff_iff, beq_iff_eq, decide_eq_true_eq]
  omega
 ·rw [if_neg e, farL_get hj]
  exact farV_prev hn hj hg
theorem farL_self {n i : Nat} (hi : i < N.length) (hg : ltS N[i] g = false) (h0 : farU wt g (n - 1) N[i] = 0) : (farL wt g N n i).set i 0 = farL wt g N n i := by
 refine List.ext_getElem (by simp) fun j h1 h2 => ?_
 rw [List.getElem_set]
 by_cases e : i = j
 ·subst e
  rw [if_pos rfl, farL_get hi]
  unfold farV
  rw [getD_at0 hi, if_neg (by rw [hg]; decide), stp_ge (by omega), h0]; rfl
 ·rw [if_neg e]
theorem farV_at {n i : Nat} (hi : i < N.length) (hg : ltS N[i] g = false) : farV wt g N n i i = ((farU wt g (n - 1) N[i] : Nat) : Int) := by
 unfold farV
 rw [getD_at0 hi, if_neg (by rw [hg]; decide), stp_ge (by omega)]
theorem farV_low {n i : Nat} (hi : i < N.length) (hg : ltS N[i] g = true) : farV wt g N n i i = 0 := by
 unfold farV
 rw [getD_at0 hi, if_pos hg]
end
theorem info_int : (Tryz.prog.info? 3).map (fun i => (i.zero, i.size, i.bytes)) = some (some (.int .i64 0), 1, 8) := by kernel_rfl
theorem zint (W : World) : owns W [T.i .i64 0] (Value.int .i64 0).cells.toList [] := ⟨_, [], [], [], rfl, own_i _ _ _, ⟨rfl, rfl⟩, rfl⟩
theorem ints_set (l : List Int) (j : Nat) (v : Int) : (l.flatMap intC).set j (.i .i64 v) = (l.set j v).flatMap intC := by
 have e : ∀ l : List Int, l.flatMap intC = l.map (T.i .i64) := fun l => by induction l with
  | nil => rfl
  | cons x l ih => rw [List.flatMap_cons, ih]; rfl
 rw [e, e, List.map_set]
theorem ints_rep : ∀ n, (List.replicate n (0 : Int)).flatMap intC = List.replicate n (T.i .i64 0)
 | 0 => rfl
 | n + 1 => by rw [List.replicate_succ, List.flatMap_cons, ints_rep n]; rfl
def FarAt (w : World) (fb : Nat) (l : List Int) : Prop := ∃ F, own w (intsT 3 l) (.slice (some ⟨fb, 0, none⟩) l.length l.length) F ∧ F.Nodup ∧ ∀ k ∈ F, k = fb
theorem FarAt.cell {w : World} {fb : Nat} {l : List Int} (h : FarAt w fb l) {j : Nat} (hj : j < l.length) : w.cell? ⟨fb, j, none⟩ = some (.int .i64 l[j]) ∧ w.frozen? ⟨fb, j, none⟩ = false := by
 obtain ⟨F, h1, _, _⟩ := h
 obtain ⟨a, c, he, hc⟩ := int_elem h1.rep hj
 cases he
 rw [add_zero'] at hc
 refine ⟨hc, ?_⟩
 obtain ⟨u, _, hf⟩ := own_at (e := 3) (sz := 1) (n := l.length) (cells := l.flatMap intC) (F := F) h1 (j := j) (by rw [length_flatMap intC 1 (fun _ => rfl)]; omega)
 exact hf
theorem FarAt.set {w : World} {fb : Nat} {l : List Int} (h : FarAt w fb l) {j : Nat} (hj : j < l.length) (v : Int) : FarAt (w.setCell ⟨fb, j, none⟩ (.int .i64 v)) fb (l.set j v) := by
 obtain ⟨F, h1, h2, h3⟩ := h
 obtain ⟨F2, k1, k2, k3⟩ := own_store (e := 3) (sz := 1) (n := l.length) (cells := l.flatMap intC) (F := F) h1 (j := j) (by rw [length_flatMap intC 1 (fun _ => rfl)]; omega) (own_i w .i64 v) (by simp)
 refine ⟨F2, ?_, k3 h2 List.nodup_nil (by simp), fun k hk => (k2 k hk).elim (h3 k) (fun h => by cases h)⟩
 rw [ints_set] at k1
 unfold intsT tl
 rw [List.length_set]
 exact k1
theorem FarAt.move {w w' : World} {fb : Nat} {l : List Int} (h : FarAt w fb l) (hm : w'.heap[fb]? = w.heap[fb]?) : FarAt w' fb l := by
 obtain ⟨F, h1, h2, h3⟩ := h
 exact ⟨F, h1.move (fun k hk => by rw [h3 k hk]; exact hm), h2, h3⟩
theorem FarAt.lt {w : World} {fb : Nat} {l : List Int} (h : FarAt w fb l) (hl : 0 < l.length) : fb < w.heap.size := by
 have := (h.cell hl).1
 exact World.block_lt_of_cell? _ _ this
theorem FarAt.below {w w' : World} {fb : Nat} {l : List Int} (h : FarAt w fb l) (hl : 0 < l.length) (hb : Below w.heap.size w w') : FarAt w' fb l := h.move (hb.block fb (h.lt hl))
set_option maxRecDepth 100000 in
set_option maxHeartbeats 16000000 in
theorem l6Far_calls {t tN tS tC : Nat} (W : Web) (x : State) (g : ByteArray) (w : World) {us vs : List Value} (hW : reps w (W.c tN tS tC) us) (h : reps w (State.c t x) vs) (hw : checkWeb W = 0) (hI : Inv W x.Runs) (hx0 : 0 < x.Runs.length) :
  Calls Tryz.prog 154 #[.agg us.toArray, .agg vs.toArray, .string g] w (fun e' w' => ∃ fb, e' = .returned (.slice (some ⟨fb, 0, none⟩) x.Runs.length x.Runs.length) ∧ w.heap.size ≤ fb ∧ FarAt w' fb (farF (waitsL W x.Runs) g (x.Runs.map Run.Name)) ∧ Below w.heap.size w w') := by
 obtain ⟨v0, rfl, h0⟩ := Web.ropen hW
 obtain ⟨A, c, rfl, _, _⟩ := rep_len h0
 obtain ⟨u0, u1, rfl, g0, g1⟩ := State.ropen h
 obtain ⟨D, k, rfl, _, _⟩ := rep_len g0
 obtain ⟨B, d, rfl, _, _⟩ := rep_len g1
 replace hW := Asd.mk hW
 replace h := Asd.mk h
 replace g1 := Asd.mk g1
 clear h0 g0
 have hRl : x.Runs.length ≤ 60 := by have := hI.length hw; have := (checkWeb_ok hw).1; omega
 obtain ⟨wt, hwt⟩ : ∃ wt, waitsL W x.Runs = wt := ⟨_, rfl⟩
 obtain ⟨N, hNe⟩ : ∃ N, x.Runs.map Run.Name = N := ⟨_, rfl⟩
 have hNl := Asd.mk (show N.length = x.Runs.length by rw [← hNe, List.length_map])
 have hN := Asd.mk (show ∀ u, ∀ y ∈ wt u, ∃ r, runOf x.Runs y = some r by rw [← hwt]; exact fun u y hy => by obtain ⟨r, hr, _⟩ := waits_run hy; exact ⟨r, hr⟩)
 have hwl := Asd.mk (show ∀ u, (wt u).length ≤ 60 by intro u; rw [← hwt]; exact Nat.le_trans (insS_len _) (Nat.le_trans (waits_len hw hI u).1 (by decide)))
 have hNk := Asd.mk (show ∀ i (h : i < N.length) (h' : i < x.Runs.length), N[i] = x.Runs[i].Name by subst hNe; intro i h h'; simp)
 rw [hwt, hNe]
 replace hwt := Asd.mk (fun u => congrFun hwt u)
 obtain ⟨n, hn⟩ : ∃ n, x.Runs.length = n := ⟨_, rfl⟩
 rw [hn] at hRl hNl hx0
 have hNn : N.length = n := hNl.out
 replace hn := Asd.mk hn
 clear hNe
 have hend := Asd.mk (show farL wt g N (n + 1) 0 = farF wt g N by unfold farF; rw [hNn])
 have hlen := Asd.mk (fun m i => (farL_length (wt := wt) (g := g) (N := N) m i).trans hNn)
 go_enter Tryz.func154, Tryz.ntmps154
 go_upto_region 1 with (fail)
 obtain ⟨X, eX⟩ : ∃ X : World, X = (w.alloc (.cells #[.slice A W.Nodes.length c] 34)).alloc (.cells #[.slice D x.Roots.length k, .slice B x.Runs.length d] 38) := ⟨_, rfl⟩
 rw [← eX]
 have hbX := Asd.mk (show Below w.heap.size w X from eX ▸ by repeat first|with_reducible (first|exact Below.refl _ _|refine below_al ?_ _|refine below_dr ?_ _|refine below_d1 ?_)|(with_reducible refine Below.setCell ?_ ?_ _;rotate_left;next => first|(simp;done)|(simp;omega)|omega))
 have a0 : X.cell? ⟨w.heap.size, 0, none⟩ = some (.slice A W.Nodes.length c) := by rw [eX]; go_simp
 have b0 : X.cell? ⟨w.heap.size + 1, 0, none⟩ = some (.slice D x.Roots.length k) := by rw [eX]; go_simp
 have b1 : X.cell? ⟨w.heap.size + 1, 1, none⟩ = some (.slice B x.Runs.length d) := by rw [eX]; go_simp
 have zX : w.heap.size + 1 < X.heap.size := by rw [eX]; simp
 clear eX
 rw [hn.out] at b1 h
 go_wp2_with (at_make; refine mk rfl rfl Tryz.underlying43 info_int rfl (by decide) n rfl rfl rfl rfl (by omega) (by unfold maxLen; omega) zint ?_)
 intro w2 ho2 hb2 hz2
 obtain ⟨fb, hfb⟩ : ∃ fb, fb = X.heap.size := ⟨_, rfl⟩
 have hF2 := Asd.mk (show FarAt w2 fb (farL wt g N 1 0) from ⟨[fb], by rw [hfb, farL_zero, hNn]; unfold intsT tl; rw [List.length_replicate, ints_rep]; exact ho2, by simp, by simp⟩)
 rw [← hfb]
 have zfb : w.heap.size + 1 < fb := by omega
 have hbw2 := Asd.mk (below_st hbX.out hb2)
 replace a0 := cell_below hb2 a0
 replace b0 := cell_below hb2 b0
 replace b1 := cell_below hb2 b1
 have zw2 : fb < w2.heap.size := by omega
 clear ho2 hb2 hz2 hfb
 go_wp2
 go_loopw [8] (fun s8 wr => ∃ m : Nat, 1 ≤ m ∧ m ≤ n + 1 ∧ s8 = .int .i64 m ∧ FarAt wr fb (farL wt g N m 0) ∧ MFr [fb] w2 wr) (fun s8 _ => n + 1 - (intOf s8).toNat)
 case atStart => exact ⟨1, by omega, by omega, rfl, hF2.out, MFr.refl _ _⟩
 case round =>
  obtain ⟨m, hm1, hm2, rfl, hFm, hmr⟩ := hrel
  have hbr := Asd.mk (MFr.upon hmr hbw2.out (Nat.le_refl _) (fun b hb => by simp at hb; omega))
  have a0r := (hmr.cell (by omega) (by simp; omega)).trans a0
  have b0r := (hmr.cell (by omega) (by simp; omega)).trans b0
  have b1r := (hmr.cell (by omega) (by simp; omega)).trans b1
  have zr : w.heap.size + 1 < wr.heap.size := by have := hmr.size; omega
  replace hFm := Asd.mk hFm
  replace hmr := Asd.mk hmr
  by_cases hlt : m ≤ n
  ·obtain ⟨V, eV⟩ : ∃ V, V = wr := ⟨_, rfl⟩
   rw [← eV] at hbr a0r b0r b1r zr hFm hmr ⊢
   clear eV
   have hm1b : (m == 1) = true ↔ m = 1 := by simp
   go_wp2
   go_loopw [9] (fun s9 wy => ∃ i : Nat, i ≤ n ∧ s9 = .int .i64 i ∧ FarAt wy fb (farL wt g N m i) ∧ MFr [fb] w2 wy) (fun s9 _ => n - (intOf s9).toNat)
   case atStart => exact ⟨0, by omega, rfl, hFm.out, hmr.out⟩
   case round =>
    obtain ⟨i, hi, rfl, hFi, hmy⟩ := hrel
    have hby := Asd.mk (MFr.upon hmy hbw2.out (Nat.le_refl _) (fun b hb => by simp at hb; omega))
    have a0y := (hmy.cell (by omega) (by simp; omega)).trans a0
    have b0y := (hmy.cell (by omega) (by simp; omega)).trans b0
    have b1y := (hmy.cell (by omega) (by simp; omega)).trans b1
    have zy : fb < wr.heap.size := by have := hmy.size; omega
    replace hFi := Asd.mk hFi
    replace hmy := Asd.mk hmy
    by_cases hlt2 : i < n
    ·have hiN : i < N.length := by omega
     have hiR : i < x.Runs.length := by have := hn.out; omega
     obtain ⟨ax, cx, v6, he, k0, _⟩ := Run.elem (g1.out.below hby.out) hiR
     rw [hn.out] at he
     cases he
     rw [← hNk.out i hiN hiR] at k0
     obtain ⟨u, hu⟩ : ∃ u, N[i] = u := ⟨_, rfl⟩
     rw [hu] at k0
     have hli := hlen.out m i
     have hfc := (hFi.out.cell (j := i) (by omega)).1
     rw [farL_get hiN] at hfc
     by_cases hg : ltS u g = true
     ·have e0 := farV_low (wt := wt) (n := m) hiN (by rw [hu]; exact hg)
      have hsk := Asd.mk (farL_skip (wt := wt) (g := g) (n := m) hiN (.inl (by rw [hu]; exact hg)))
      rw [e0] at hfc
      have hg2 : Op.bytesLess u.toList g.toList = true := hg
      replace hg := Asd.mk hg
      replace hu := Asd.mk hu
      clear e0
      go_wp2
      go_roundw
      case rel => exact ⟨i + 1, by omega, by go_num, by rw [hsk.out]; exact hFi.out, hmy.out⟩
      case measure => simp [intOf]; omega
     ·replace hg := Bool.eq_false_iff.2 hg
      have e0 := farV_at (wt := wt) (n := m) hiN (by rw [hu]; exact hg)
      rw [e0, hu] at hfc
      have hg2 : Op.bytesLess u.toList g.toList = false := hg
      by_cases hf0 : farU wt g (m - 1) u = 0
      ·rw [hf0] at hfc
       have hset := Asd.mk (farL_set (wt := wt) (n := m) hiN hm1 (by rw [hu]; exact hg) (by rw [hu]; exact hf0))
       have hself := Asd.mk (farL_self (wt := wt) (n := m) hiN (by rw [hu]; exact hg) (by rw [hu]; exact hf0))
       have hany := Asd.mk (wk_any hm1 hf0)
       have hprev := Asd.mk (fun (jx : Nat) (v : Int) (hj : jx < N.length) (hgj : ltS N[jx] g = false) (h2 : 2 ≤ m) (hv : v = m ∨ v = 0) (h' : jx < ((farL wt g N m i).set i v).length) => far_prev (wt := wt) h2 hiN hj hgj (by rw [hu]; exact hf0) hv h')
       rw [hu] at hset
       have hun := Asd.mk hu
       replace hg := Asd.mk hg
       replace hf0 := Asd.mk hf0
       clear e0 hu
       go_upto_region 9 with (fail)
       go_still_tail 8, (by kernel_rfl)
       change wpList _ _ _ _ _ wr.drew
       go_wp2_with fail
       refine (l6Waits_calls W x u _ (hW.out.below (hby.out.trans ((show Below wr.heap.size wr _ from by repeat first|with_reducible (first|exact Below.refl _ _|refine below_al ?_ _|refine below_dr ?_ _|refine below_d1 ?_)|(with_reducible refine Below.setCell ?_ ?_ _;rotate_left;next => first|(simp;done)|(simp;omega)|omega)).mono hby.out.size))) (h.out.below (hby.out.trans ((show Below wr.heap.size wr _ from by repeat first|with_reducible (first|exact Below.refl _ _|refine below_al ?_ _|refine below_dr ?_ _|refine below_d1 ?_)|(with_reducible refine Below.setCell ?_ ?_ _;rotate_left;next => first|(simp;done)|(simp;omega)|omega)).mono hby.out.size))) hw hI).mono ?_
       rw [hwt.out]
       rintro e' w7 ⟨v7, rfl, ⟨F7, o7, _, l7⟩, hb⟩
       obtain ⟨A7, c7, rfl, _, _⟩ := own_slice o7
       have hb7 := Asd.mk (below_st (show Below wr.heap.size wr _ from by repeat first|with_reducible (first|exact Below.refl _ _|refine below_al ?_ _|refine below_dr ?_ _|refine below_d1 ?_)|(with_reducible refine Below.setCell ?_ ?_ _;rotate_left;next => first|(simp;done)|(simp;omega)|omega)) hb)
       have hF7 := Asd.mk (hFi.out.below (by omega) hb7.out)
       have hm7 := Asd.mk (hmy.out.trans (MFr.of_below hb7.out))
       have hb7w := Asd.mk (below_st hby.out hb7.out)
       have hr7 := Asd.mk (fun (Q : World) (gq : MFr [fb] w7 Q) => (gq.own o7 (fun b hb h => by have := l7 b hb; simp at h this; omega)).rep)
       have hwy := hwl.out u
       have hNu := Asd.mk (hN.out u)
       obtain ⟨l, hl⟩ : ∃ l, wt u = l := ⟨_, rfl⟩
       rw [hl] at hr7 hwy hNu hany ⊢
       replace a0y := cell_below hb7.out a0y
       replace b0y := cell_below hb7.out b0y
       replace b1y := cell_below hb7.out b1y
       have zy7 : fb < w7.heap.size := by have := hb7.out.size; omega
       clear hb o7 l7 k0 hfc hl
       go_wp2
       go_loopw [11] (fun s11 wz => ∃ kk : Nat, kk ≤ l.length ∧ s11 = .int .i64 kk ∧ FarAt wz fb ((farL wt g N m i).set i (if anyS wt g m l kk then (m : Int) else 0)) ∧ MFr [fb] w7 wz) (fun s11 _ => l.length - (intOf s11).toNat)
       case atStart => exact ⟨0, by omega, rfl, by rw [show (if anyS wt g m l 0 = true then (m : Int) else 0) = 0 from rfl, hself.out]; exact hF7.out, MFr.refl _ _⟩
       case round =>
        obtain ⟨kk, hkk, rfl, hFk, hmz⟩ := hrel
        have hbz := Asd.mk (MFr.upon hmz hb7w.out (Nat.le_refl _) (fun b hb => by simp at hb; omega))
        have a0z := (hmz.cell (by omega) (by simp; omega)).trans a0y
        have b0z := (hmz.cell (by omega) (by simp; omega)).trans b0y
        have b1z := (hmz.cell (by omega) (by simp; omega)).trans b1y
        have zz : fb < wr.heap.size := by have := hmz.size; omega
        obtain ⟨vk, hvk⟩ : ∃ vk : Int, (if anyS wt g m l kk = true then (m : Int) else 0) = vk := ⟨_, rfl⟩
        have hvk2 : vk = m ∨ vk = 0 := by rw [← hvk]; split <;> simp
        rw [hvk] at hFk
        replace hvk2 := Asd.mk hvk2
        have hlk := Asd.mk (show ((farL wt g N m i).set i vk).length = n by rw [List.length_set, hlen.out])
        by_cases hlt3 : kk < l.length
        ·obtain ⟨al, c', he, hcell⟩ := str_elem (hr7.out wr hmz) hlt3
         cases he
         have hNy := hNu.out l[kk] (List.getElem_mem hlt3)
         have hsucc := anyS_succ (wt := wt) (g := g) (n := m) hlt3
         obtain ⟨y, hy⟩ : ∃ y, l[kk] = y := ⟨_, rfl⟩
         rw [hy] at hcell hNy hsucc
         replace hFk := Asd.mk hFk
         replace hmz := Asd.mk hmz
         replace hsucc := Asd.mk hsucc
         replace hNy := Asd.mk hNy
         replace hy := Asd.mk hy
         replace hvk := Asd.mk hvk
         go_upto_region 13 with (fail)
         go_cut [95] (fun s95 wx => s95 = .bool (condS wt g m y) ∧ Below wr.heap.size wr wx)
         case first =>
          by_cases hm1 : m = 1
          ·subst hm1
           clear hm1b
           by_cases hyg : y = g
           ·have e1 := Asd.mk (show condS wt g 1 y = true by unfold condS; rw [if_pos rfl, decide_eq_true hyg])
            have hyb : (y.toList == g.toList) = true := (ba_eq _ _).2 hyg
            replace hyg := Asd.mk hyg
            go_quiet (fail)
            go_wp2
            go_meet
            exact ⟨by rw [e1.out], by repeat first|with_reducible (first|exact Below.refl _ _|refine below_al ?_ _|refine below_dr ?_ _|refine below_d1 ?_)|(with_reducible refine Below.setCell ?_ ?_ _;rotate_left;next => first|(simp;done)|(simp;omega)|omega)⟩
           ·have e1 := Asd.mk (show condS wt g 1 y = false by unfold condS; rw [if_pos rfl, decide_eq_false hyg])
            have hyb : (y.toList == g.toList) = false := by rw [Bool.eq_false_iff]; exact fun h => hyg ((ba_eq _ _).1 h)
            replace hyg := Asd.mk hyg
            go_quiet (fail)
            go_wp2
            go_meet
            exact ⟨by rw [e1.out], by repeat first|with_reducible (first|exact Below.refl _ _|refine below_al ?_ _|refine below_dr ?_ _|refine below_d1 ?_)|(with_reducible refine Below.setCell ?_ ?_ _;rotate_left;next => first|(simp;done)|(simp;omega)|omega)⟩
          ·have hm2' : 1 < m := by omega
           have hme : ((m : Int) == 1) = false := by rw [beq_eq_false_iff_ne]; omega
           have hml : decide ((1 : Int) < (m : Int)) = true := decide_eq_true (by omega)
           by_cases hgy : ltS g y = true
           ·have hyg1 : Op.bytesLess y.toList g.toList = false := ltS_asymm hgy
            have hyg2 : (y.toList == g.toList) = false := by rw [Bool.eq_false_iff]; exact fun h => by rw [(ba_eq _ _).1 h, ltS_irr] at hgy; cases hgy
            obtain ⟨ry, hry⟩ := hNy.out
            obtain ⟨jx, hjx, hM, hri⟩ := atR_some hry
            have hjN : jx < N.length := by rw [hNl.out]; have := hn.out; omega
            have hNj : N[jx] = y := by rw [hNk.out jx hjN hjx, hri]; exact (runOf_some hry).2
            have hjl : jx < ((farL wt g N m i).set i vk).length := by rw [hlk.out, ← hNn]; exact hjN
            have hpv := hprev.out jx vk hjN (by rw [hNj]; exact ltS_asymm hgy) (by omega) hvk2.out hjl
            have hcj := (hFk.out.cell hjl).1
            obtain ⟨fj, hfj⟩ : ∃ fj, ((farL wt g N m i).set i vk)[jx] = fj := ⟨_, rfl⟩
            rw [hfj] at hpv hcj
            rw [hNj] at hpv
            have e1 := Asd.mk (show condS wt g m y = (fj == (m : Int) - 1) by unfold condS; rw [if_neg hm1, hgy, hpv]; rfl)
            have hM2 := Asd.mk hM
            have hjn : (jx : Int) < (n : Int) := by omega
            replace hgy := Asd.mk hgy
            clear hpv hry hM hri hNj hfj hjl
            have hkeep := Asd.mk (show ∀ Y, Below wr.heap.size wr Y → (Below wr.heap.size wr Y ∧ Y.cell? ⟨w.heap.size + 1, 0, none⟩ = some (.slice D x.Roots.length k) ∧ Y.cell? ⟨w.heap.size + 1, 1, none⟩ = some (.slice (some ax) n d) ∧ Y.cell? (al.add kk) = some (.string y) ∧ Y.cell? ⟨fb, jx, none⟩ = some (.int .i64 fj)) from fun Y hb => ⟨hb, cell_below hb b0z, cell_below hb b1z, cell_below hb hcell, cell_below hb hcj⟩)
            have s_0 : Below wr.heap.size wr wr.drew := (Below.refl _ _).drew
            refine wp_region_held_drew (S := fun Y => Below wr.heap.size wr Y ∧ Y.cell? ⟨w.heap.size + 1, 0, none⟩ = some (.slice D x.Roots.length k) ∧ Y.cell? ⟨w.heap.size + 1, 1, none⟩ = some (.slice (some ax) n d) ∧ Y.cell? (al.add kk) = some (.string y) ∧ Y.cell? ⟨fb, jx, none⟩ = some (.int .i64 fj)) (by kernel_rfl) (hkeep.out _ s_0) (fun hHeld => ?_)
            (((refine wH 0 (v:=?_) rfl (by kernel_rfl) (fun _ _ _ h => h) (by rfl) ?_ (by assumption) ?_;rotate_left;next => ((intro X hX;(try dsimp only at hX);go_simp);try with_reducible rfl));try simp only [Act.put,lA,lB,lC,lD,lE,lF]); ((refine wH 1 (v:=?_) rfl (by kernel_rfl) (fun _ _ _ h => h) (by rfl) ?_ (by assumption) ?_;rotate_left;next => ((intro X hX;(try dsimp only at hX);go_simp);try with_reducible rfl));try simp only [Act.put,lA,lB,lC,lD,lE,lF]); ((refine wH 2 (v:=?_) rfl (by kernel_rfl) (fun _ _ _ h => h) (by rfl) ?_ (by assumption) ?_;rotate_left;next => ((intro X hX;(try dsimp only at hX);go_simp);try with_reducible rfl));try simp only [Act.put,lA,lB,lC,lD,lE,lF]))
            ((refine wN 3 rfl (by kernel_rfl) (fun _ _ _ h => h) (by rfl) (by assumption) ?_);try simp only [Act.put,lA,lB,lC,lD,lE,lF]; (refine wN 4 rfl (by kernel_rfl) (fun _ _ _ h => h) (by rfl) (by assumption) ?_);try simp only [Act.put,lA,lB,lC,lD,lE,lF]; (refine wN 5 rfl (by kernel_rfl) (fun _ _ _ h => h) (by rfl) (by assumption) ?_);try simp only [Act.put,lA,lB,lC,lD,lE,lF]; (refine wN 6 rfl (by kernel_rfl) (fun _ _ _ h => h) (by rfl) (by assumption) ?_);try simp only [Act.put,lA,lB,lC,lD,lE,lF]; (refine wN 7 rfl (by kernel_rfl) (fun _ _ _ h => h) (by rfl) (by assumption) ?_);try simp only [Act.put,lA,lB,lC,lD,lE,lF]; (refine wN 8 rfl (by kernel_rfl) (fun _ _ _ h => h) (by rfl) (by assumption) ?_);try simp only [Act.put,lA,lB,lC,lD,lE,lF])
            (((refine wH 9 (v:=?_) rfl (by kernel_rfl) (fun _ _ _ h => h) (by rfl) ?_ (by assumption) ?_;rotate_left;next => ((intro X hX;(try dsimp only at hX);go_simp);try with_reducible rfl));try simp only [Act.put,lA,lB,lC,lD,lE,lF]); ((refine wH 10 (v:=?_) rfl (by kernel_rfl) (fun _ _ _ h => h) (by rfl) ?_ (by assumption) ?_;rotate_left;next => ((intro X hX;(try dsimp only at hX);go_simp);try with_reducible rfl));try simp only [Act.put,lA,lB,lC,lD,lE,lF]); ((refine wH 11 (v:=?_) rfl (by kernel_rfl) (fun _ _ _ h => h) (by rfl) ?_ (by assumption) ?_;rotate_left;next => ((intro X hX;(try dsimp only at hX);go_simp);try with_reducible rfl));try simp only [Act.put,lA,lB,lC,lD,lE,lF]); ((refine wH 12 (v:=?_) rfl (by kernel_rfl) (fun _ _ _ h => h) (by rfl) ?_ (by assumption) ?_;rotate_left;next => ((intro X hX;(try dsimp only at hX);go_simp);try with_reducible rfl));try simp only [Act.put,lA,lB,lC,lD,lE,lF]); ((refine wH 13 (v:=?_) rfl (by kernel_rfl) (fun _ _ _ h => h) (by rfl) ?_ (by assumption) ?_;rotate_left;next => ((intro X hX;(try dsimp only at hX);go_simp);try with_reducible rfl));try simp only [Act.put,lA,lB,lC,lD,lE,lF]); ((refine wH 14 (v:=?_) rfl (by kernel_rfl) (fun _ _ _ h => h) (by rfl) ?_ (by assumption) ?_;rotate_left;next => ((intro X hX;(try dsimp only at hX);go_simp);try with_reducible rfl));try simp only [Act.put,lA,lB,lC,lD,lE,lF]); ((refine wH 15 (v:=?_) rfl (by kernel_rfl) (fun _ _ _ h => h) (by rfl) ?_ (by assumption) ?_;rotate_left;next => ((intro X hX;(try dsimp only at hX);go_simp);try with_reducible rfl));try simp only [Act.put,lA,lB,lC,lD,lE,lF]); ((refine wH 16 (v:=?_) rfl (by kernel_rfl) (fun _ _ _ h => h) (by rfl) ?_ (by assumption) ?_;rotate_left;next => ((intro X hX;(try dsimp only at hX);go_simp);try with_reducible rfl));try simp only [Act.put,lA,lB,lC,lD,lE,lF]); ((refine wH 17 (v:=?_) rfl (by kernel_rfl) (fun _ _ _ h => h) (by rfl) ?_ (by assumption) ?_;rotate_left;next => ((intro X hX;(try dsimp only at hX);go_simp);try with_reducible rfl));try simp only [Act.put,lA,lB,lC,lD,lE,lF]); ((refine wH 18 (v:=?_) rfl (by kernel_rfl) (fun _ _ _ h => h) (by rfl) ?_ (by assumption) ?_;rotate_left;next => ((intro X hX;(try dsimp only at hX);go_simp);try with_reducible rfl));try simp only [Act.put,lA,lB,lC,lD,lE,lF]); ((refine wH 19 (v:=?_) rfl (by kernel_rfl) (fun _ _ _ h => h) (by rfl) ?_ (by assumption) ?_;rotate_left;next => ((intro X hX;(try dsimp only at hX);go_simp);try with_reducible rfl));try simp only [Act.put,lA,lB,lC,lD,lE,lF]); ((refine wH 20 (v:=?_) rfl (by kernel_rfl) (fun _ _ _ h => h) (by rfl) ?_ (by assumption) ?_;rotate_left;next => ((intro X hX;(try dsimp only at hX);go_simp);try with_reducible rfl));try simp only [Act.put,lA,lB,lC,lD,lE,lF]); ((refine wH 21 (v:=?_) rfl (by kernel_rfl) (fun _ _ _ h => h) (by rfl) ?_ (by assumption) ?_;rotate_left;next => ((intro X hX;(try dsimp only at hX);go_simp);try with_reducible rfl));try simp only [Act.put,lA,lB,lC,lD,lE,lF]); ((refine wH 22 (v:=?_) rfl (by kernel_rfl) (fun _ _ _ h => h) (by rfl) ?_ (by assumption) ?_;rotate_left;next => ((intro X hX;(try dsimp only at hX);go_simp);try with_reducible rfl));try simp only [Act.put,lA,lB,lC,lD,lE,lF]); ((refine wH 23 (v:=?_) rfl (by kernel_rfl) (fun _ _ _ h => h) (by rfl) ?_ (by assumption) ?_;rotate_left;next => ((intro X hX;(try dsimp only at hX);go_simp);try with_reducible rfl));try simp only [Act.put,lA,lB,lC,lD,lE,lF]); ((refine wH 24 (v:=?_) rfl (by kernel_rfl) (fun _ _ _ h => h) (by rfl) ?_ (by assumption) ?_;rotate_left;next => ((intro X hX;(try dsimp only at hX);go_simp);try with_reducible rfl));try simp only [Act.put,lA,lB,lC,lD,lE,lF]); ((refine wH 25 (v:=?_) rfl (by kernel_rfl) (fun _ _ _ h => h) (by rfl) ?_ (by assumption) ?_;rotate_left;next => ((intro X hX;(try dsimp only at hX);go_simp);try with_reducible rfl));try simp only [Act.put,lA,lB,lC,lD,lE,lF]); ((refine wH 26 (v:=?_) rfl (by kernel_rfl) (fun _ _ _ h => h) (by rfl) ?_ (by assumption) ?_;rotate_left;next => ((intro X hX;(try dsimp only at hX);go_simp);try with_reducible rfl));try simp only [Act.put,lA,lB,lC,lD,lE,lF]); ((refine wH 27 (v:=?_) rfl (by kernel_rfl) (fun _ _ _ h => h) (by rfl) ?_ (by assumption) ?_;rotate_left;next => ((intro X hX;(try dsimp only at hX);go_simp);try with_reducible rfl));try simp only [Act.put,lA,lB,lC,lD,lE,lF]); ((refine wH 31 (v:=?_) rfl (by kernel_rfl) (fun _ _ _ h => h) (by rfl) ?_ (by assumption) ?_;rotate_left;next => ((intro X hX;(try dsimp only at hX);go_simp);try with_reducible rfl));try simp only [Act.put,lA,lB,lC,lD,lE,lF]); ((refine wH 32 (v:=?_) rfl (by kernel_rfl) (fun _ _ _ h => h) (by rfl) ?_ (by assumption) ?_;rotate_left;next => ((intro X hX;(try dsimp only at hX);go_simp);try with_reducible rfl));try simp only [Act.put,lA,lB,lC,lD,lE,lF]))
            (refine wpAnyH_ready (rs := [28]) (by kernel_rfl) (by simp) ?_; refine AllReadyH.cons rfl (fun K hK => ?_) AllReadyH.nil)
            go_simp
            refine (l4At_calls x y _ (h.out.below (hbz.out.trans ((show Below wr.heap.size wr _ from by repeat first|with_reducible (first|exact Below.refl _ _|exact s_0|refine below_al ?_ _|refine below_dr ?_ _|refine below_d1 ?_)|(with_reducible refine Below.setCell ?_ ?_ _;rotate_left;next => first|(simp;done)|(simp;omega)|omega)).mono hbz.out.size)))).mono ?_
            rw [hM2.out]
            rintro e' w8 ⟨rfl, hb⟩
            have hb8 := below_st (show Below wr.heap.size wr _ from by repeat first|with_reducible (first|exact Below.refl _ _|exact s_0|refine below_al ?_ _|refine below_dr ?_ _|refine below_d1 ?_)|(with_reducible refine Below.setCell ?_ ?_ _;rotate_left;next => first|(simp;done)|(simp;omega)|omega)) hb
            clear hb s_0
            refine hK.out _ _ (hkeep.out _ hb8) (fun hHeld => ?_)
            clear hK K
            (((refine wH 29 (v:=?_) rfl (by kernel_rfl) (fun _ _ _ h => h) (by rfl) ?_ (by assumption) ?_;rotate_left;next => ((intro X hX;(try dsimp only at hX);go_simp);try with_reducible rfl));try simp only [Act.put,lA,lB,lC,lD,lE,lF]); ((refine wH 30 (v:=?_) rfl (by kernel_rfl) (fun _ _ _ h => h) (by rfl) ?_ (by assumption) ?_;rotate_left;next => ((intro X hX;(try dsimp only at hX);go_simp);try with_reducible rfl));try simp only [Act.put,lA,lB,lC,lD,lE,lF]); ((refine wH 33 (v:=?_) rfl (by kernel_rfl) (fun _ _ _ h => h) (by rfl) ?_ (by assumption) ?_;rotate_left;next => ((intro X hX;(try dsimp only at hX);go_simp);try with_reducible rfl));try simp only [Act.put,lA,lB,lC,lD,lE,lF]); ((refine wH 34 (v:=?_) rfl (by kernel_rfl) (fun _ _ _ h => h) (by rfl) ?_ (by assumption) ?_;rotate_left;next => ((intro X hX;(try dsimp only at hX);go_simp);try with_reducible rfl));try simp only [Act.put,lA,lB,lC,lD,lE,lF]); ((refine wH 35 (v:=?_) rfl (by kernel_rfl) (fun _ _ _ h => h) (by rfl) ?_ (by assumption) ?_;rotate_left;next => ((intro X hX;(try dsimp only at hX);go_simp);try with_reducible rfl));try simp only [Act.put,lA,lB,lC,lD,lE,lF]))
            refine wpAnyH_done (by kernel_rfl) ?_ _
            go_wp2_with fail
            go_meet
            exact ⟨by rw [e1.out]; try simp; try rw [IntKind.wrap_i64, show ((m : Int) - 1 + 9223372036854775808) % 18446744073709551616 - 9223372036854775808 = (m : Int) - 1 by omega], hb8⟩
           ·have e1 := Asd.mk (show condS wt g m y = false by unfold condS; rw [if_neg hm1, Bool.eq_false_iff.2 hgy]; rfl)
            by_cases hyg : y = g
            ·have hyg2 : (y.toList == g.toList) = true := (ba_eq _ _).2 hyg
             replace hyg := Asd.mk hyg
             replace hgy := Asd.mk hgy
             go_quiet (fail)
             go_wp2
             go_meet
             exact ⟨by rw [e1.out], by repeat first|with_reducible (first|exact Below.refl _ _|refine below_al ?_ _|refine below_dr ?_ _|refine below_d1 ?_)|(with_reducible refine Below.setCell ?_ ?_ _;rotate_left;next => first|(simp;done)|(simp;omega)|omega)⟩
            ·have hyg1 : Op.bytesLess y.toList g.toList = true := by
              cases hq : Op.bytesLess y.toList g.toList with
              | true => rfl
              | false => exact absurd (ltS_tri hq (Bool.eq_false_iff.2 hgy)) hyg
             replace hyg := Asd.mk hyg
             replace hgy := Asd.mk hgy
             go_quiet (fail)
             go_wp2
             go_meet
             exact ⟨by rw [e1.out], by repeat first|with_reducible (first|exact Below.refl _ _|refine below_al ?_ _|refine below_dr ?_ _|refine below_d1 ?_)|(with_reducible refine Below.setCell ?_ ?_ _;rotate_left;next => first|(simp;done)|(simp;omega)|omega)⟩
         case rest =>
          obtain ⟨rfl, hbc⟩ := hcut
          obtain ⟨Q, eQ⟩ : ∃ Q, Q = wc := ⟨_, rfl⟩
          rw [← eQ] at hbc ⊢
          clear eQ
          have hFQ := Asd.mk (hFk.out.below (by have := hlk.out; omega) hbc)
          have hmQ := Asd.mk (hmz.out.trans (MFr.of_below hbc))
          have zQ : fb < Q.heap.size := by have := hbc.size; omega
          clear hbc hcell a0z b0z b1z
          cases hc : condS wt g m y with
          | false =>
           have hv9 := Asd.mk (show (if anyS wt g m l (kk + 1) = true then (m : Int) else 0) = vk by rw [hsucc.out, hc, Bool.or_false]; exact hvk.out)
           clear hc
           go_wp2
           go_roundw
           case rel => exact ⟨kk + 1, by omega, by go_num, by rw [hv9.out]; exact hFQ.out, hmQ.out⟩
           case measure => simp [intOf]; omega
          | true =>
           have hv9 := Asd.mk (show (if anyS wt g m l (kk + 1) = true then (m : Int) else 0) = m by rw [hsucc.out, hc, Bool.or_true]; rfl)
           have hst := Asd.mk (hFQ.out.set (j := i) (by have := hlk.out; omega) (m : Int))
           have hfz := (hFQ.out.cell (j := i) (by have := hlk.out; omega)).2
           obtain ⟨cu, hcz⟩ : ∃ cu, Q.cell? ⟨fb, i, none⟩ = some cu := ⟨_, (hFQ.out.cell (j := i) (by have := hlk.out; omega)).1⟩
           clear hc
           go_wp2
           go_roundw
           case rel => exact ⟨kk + 1, by omega, by go_num, by rw [hv9.out]; have := hst.out; rw [List.set_set] at this; exact this, hmQ.out.trans (MFr.of_set _ (by simp))⟩
           case measure => simp [intOf]; omega
        ·obtain rfl : kk = l.length := by omega
         have hv9 := Asd.mk (show vk = if wkB wt g m u = true then (m : Int) else 0 by rw [← hvk, anyS_end, hany.out])
         have hF9 := Asd.mk (show FarAt wr fb (farL wt g N m (i + 1)) by rw [← hset.out, ← hv9.out]; exact hFk)
         have hm9 := Asd.mk (hm7.out.trans hmz)
         clear hmz hFk
         go_wp2
         go_roundw
         case rel => exact ⟨i + 1, by omega, by go_num, hF9.out, hm9.out⟩
         case measure => simp [intOf]; omega
      ·have hsk := Asd.mk (farL_skip (wt := wt) (g := g) (n := m) hiN (.inr (by rw [hu]; exact hf0)))
       obtain ⟨fv, hfv⟩ : ∃ fv, farU wt g (m - 1) u = fv := ⟨_, rfl⟩
       rw [hfv] at hfc hf0
       have hfp : 0 < fv := Nat.pos_of_ne_zero hf0
       replace hg := Asd.mk hg
       replace hf0 := Asd.mk hf0
       replace hu := Asd.mk hu
       clear e0 hfv
       go_wp2
       go_roundw
       case rel => exact ⟨i + 1, by omega, by go_num, by rw [hsk.out]; exact hFi.out, hmy.out⟩
       case measure => simp [intOf]; omega
    ·obtain rfl : i = n := by omega
     have hrow := Asd.mk (show farL wt g N m i = farL wt g N (m + 1) 0 by rw [← hNn]; exact farL_row m)
     go_wp2
     go_roundw
     case rel => exact ⟨m + 1, by omega, by omega, by go_num, by rw [← hrow.out]; exact hFi.out, hmy.out⟩
     case measure => simp [intOf]; omega
  ·obtain rfl : m = n + 1 := by omega
   rw [hend.out] at hFm
   go_wp2
   go_ret
   exact ⟨fb, by rw [hn.out]; rfl, by omega, hFm.out, hbr.out⟩
def bestTo (wt : ByteArray → List ByteArray) (N : List ByteArray) (k : Nat) : List ByteArray := (N.take k).foldl (circStep wt N.length) []
theorem bestTo_zero (wt : ByteArray → List ByteArray) (N : List ByteArray) : bestTo wt N 0 = [] := rfl
theorem bestTo_succ {wt : ByteArray → List ByteArray} {N : List ByteArray} {k : Nat} (h : k < N.length) : bestTo wt N (k + 1) = circStep wt N.length (bestTo wt N k) N[k] := by
 unfold bestTo
 rw [List.take_succ_eq_append_getElem h, List.foldl_append]; rfl
theorem bestTo_end (wt : ByteArray → List ByteArray) (N : List ByteArray) : bestTo wt N N.length = circleU wt N := by unfold bestTo circleU; rw [List.take_length]
theorem circStep_len {wt : ByteArray → List ByteArray} {B : Nat} {best : List ByteArray} {v : ByteArray} (hb : best.length ≤ B) : (circStep wt B best v).length ≤ B := by
 unfold circStep
 split
 ·exact hb
 ·rename_i h
  have h0 : farU wt v B v ≠ 0 := fun e => h (.inl e)
  obtain ⟨n, hn⟩ : ∃ n, farU wt v B v = n + 1 := ⟨farU wt v B v - 1, by omega⟩
  rw [hn, List.length_cons, pathU_length hn]
  have := farU_le (wt := wt) (g := v) B v
  omega
theorem bestTo_len (wt : ByteArray → List ByteArray) (N : List ByteArray) : ∀ k, k ≤ N.length → (bestTo wt N k).length ≤ N.length
 | 0, _ => by simp [bestTo_zero]
 | k + 1, h => by rw [bestTo_succ (by omega)]; exact circStep_len (bestTo_len wt N k (by omega))
structure WayI (wt : ByteArray → List ByteArray) (g : ByteArray) (B n : Nat) (T pre : List ByteArray) (u : ByteArray) : Prop where
 far : farU wt g B u + pre.length = n
 pos : 0 < farU wt g B u
 all : pre ++ u :: pathU wt g (farU wt g B) (farU wt g B u) u = T
theorem WayI.next {wt : ByteArray → List ByteArray} {g : ByteArray} {B n : Nat} {T pre : List ByteArray} {u : ByteArray} (h : WayI wt g B n T pre u) {m : Nat} (hm : farU wt g B u = m + 2) : ∃ x, (wt u).find? (fun x => ltS g x && decide (farU wt g B x = m + 1)) = some x ∧ WayI wt g B n T (pre ++ [u]) x := by
 obtain ⟨x, hf, hx, hfx⟩ := wk_find hm
 refine ⟨x, hf, ⟨by rw [hfx, List.length_append]; have := h.far; simp; omega, by omega, ?_⟩⟩
 rw [← h.all, hm, hfx]
 conv => rhs; unfold pathU
 rw [hf]
 simp
theorem WayI.done {wt : ByteArray → List ByteArray} {g : ByteArray} {B n : Nat} {T pre : List ByteArray} {u : ByteArray} (h : WayI wt g B n T pre u) (hm : farU wt g B u = 1) : pre ++ [u] = T := by rw [← h.all, hm]; rfl
theorem find_first {l : List ByteArray} {p : ByteArray → Bool} {x : ByteArray} (h : l.find? p = some x) {k : Nat} (hk : k < l.length) (hno : ∀ (i : Nat) (hi : i < l.length), i < k → p l[i] = false) (hp : p l[k] = true) : l[k] = x := by
 obtain ⟨_, i, hi, he, hn⟩ := List.find?_eq_some_iff_getElem.1 h
 rcases Nat.lt_trichotomy i k with hlt | rfl | hgt
 ·have h1 := hno i hi hlt
  have h2 := List.find?_some h
  rw [he, h2] at h1; cases h1
 ·exact he
 ·have := hn k hgt; rw [hp] at this; cases this
theorem find_some_lt {l : List ByteArray} {p : ByteArray → Bool} {x : ByteArray} (h : l.find? p = some x) (hno : ∀ (i : Nat) (hi : i < l.length), p l[i] = false) : False := by
 obtain ⟨_, i, hi, he, _⟩ := List.find?_eq_some_iff_getElem.1 h
 have h2 := List.find?_some h
 have := hno i hi
 rw [he, h2] at this; cases this
set_option maxRecDepth 100000 in
set_option maxHeartbeats 16000000 in
theorem l6Circle_calls {t tN tS tC : Nat} (W : Web) (x : State) (w : World) {us vs : List Value} (hW : reps w (W.c tN tS tC) us) (h : reps w (State.c t x) vs) (hw : checkWeb W = 0) (hI : Inv W x.Runs) :
  Calls Tryz.prog 92 #[.agg us.toArray, .agg vs.toArray] w (MadeV w (strsT 9 (circleL W x.Runs))) := by
 obtain ⟨v0, rfl, h0⟩ := Web.ropen hW
 obtain ⟨A, c, rfl, _, _⟩ := rep_len h0
 obtain ⟨u0, u1, rfl, g0, g1⟩ := State.ropen h
 obtain ⟨D, k, rfl, _, _⟩ := rep_len g0
 obtain ⟨B, d, rfl, _, _⟩ := rep_len g1
 replace hW := Asd.mk hW
 replace h := Asd.mk h
 replace g1 := Asd.mk g1
 clear h0 g0
 have hRl : x.Runs.length ≤ 60 := by have := hI.length hw; have := (checkWeb_ok hw).1; omega
 have hcir := Asd.mk (show circleL W x.Runs = circleU (waitsL W x.Runs) (x.Runs.map Run.Name) from rfl)
 obtain ⟨wt, hwt⟩ : ∃ wt, waitsL W x.Runs = wt := ⟨_, rfl⟩
 obtain ⟨N, hNe⟩ : ∃ N, x.Runs.map Run.Name = N := ⟨_, rfl⟩
 have hNl := Asd.mk (show N.length = x.Runs.length by rw [← hNe, List.length_map])
 have hN := Asd.mk (show ∀ u, ∀ y ∈ wt u, ∃ r, runOf x.Runs y = some r by rw [← hwt]; exact fun u y hy => by obtain ⟨r, hr, _⟩ := waits_run hy; exact ⟨r, hr⟩)
 have hwl := Asd.mk (show ∀ u, (wt u).length ≤ 60 by intro u; rw [← hwt]; exact Nat.le_trans (insS_len _) (Nat.le_trans (waits_len hw hI u).1 (by decide)))
 have hNk := Asd.mk (show ∀ i (h : i < N.length) (h' : i < x.Runs.length), N[i] = x.Runs[i].Name by subst hNe; intro i h h'; simp)
 rw [hwt, hNe] at hcir
 rw [hcir.out]
 have hwt2 := Asd.mk hwt
 replace hwt := Asd.mk (fun u => congrFun hwt u)
 have hNe2 := Asd.mk hNe
 clear hNe
 have hbl := Asd.mk (bestTo_len wt N)
 go_enter Tryz.func92, Tryz.ntmps92
 go_upto_region 2 with (fail)
 obtain ⟨X, eX⟩ : ∃ X : World, X = ((w.alloc (.cells #[.slice A W.Nodes.length c] 34)).alloc (.cells #[.slice D x.Roots.length k, .slice B x.Runs.length d] 38)).alloc (.cells #[] 9) := ⟨_, rfl⟩
 rw [← eX]
 have hbX := Asd.mk (show Below w.heap.size w X from eX ▸ by repeat first|with_reducible (first|exact Below.refl _ _|refine below_al ?_ _|refine below_dr ?_ _|refine below_d1 ?_)|(with_reducible refine Below.setCell ?_ ?_ _;rotate_left;next => first|(simp;done)|(simp;omega)|omega))
 have a0 : X.cell? ⟨w.heap.size, 0, none⟩ = some (.slice A W.Nodes.length c) := by rw [eX]; go_simp
 have b0 : X.cell? ⟨w.heap.size + 1, 0, none⟩ = some (.slice D x.Roots.length k) := by rw [eX]; go_simp
 have b1 : X.cell? ⟨w.heap.size + 1, 1, none⟩ = some (.slice B x.Runs.length d) := by rw [eX]; go_simp
 have zX : w.heap.size + 1 < X.heap.size := by rw [eX]; simp
 have hE := Asd.mk (show Lie w.heap.size X (strsT 9 []) (.slice (some ⟨w.heap.size + 1 + 1, 0, none⟩) 0 0) from eX ▸ (Lie.emptyB ((w.alloc (.cells #[.slice A W.Nodes.length c] 34)).alloc (.cells #[.slice D x.Roots.length k, .slice B x.Runs.length d] 38)) 9 1 (by simp)).mono (show w.heap.size ≤ ((w.alloc _).alloc _).heap.size by simp; omega))
 clear eX
 go_wp2
 go_loopw [5, 6] (fun s5 s6 wr => ∃ i : Nat, i ≤ x.Runs.length ∧ s6 = .int .i64 i ∧ Lie w.heap.size wr (strsT 9 (bestTo wt N i)) s5 ∧ Below X.heap.size X wr) (fun _ s6 _ => x.Runs.length - (intOf s6).toNat)
 case atStart => exact ⟨0, by omega, rfl, hE.out, Below.refl _ _⟩
 case round =>
  obtain ⟨i, hi, rfl, hL, hbr⟩ := hrel
  have hbe := hbl.out i (by rw [hNl.out]; exact hi)
  have hsuc := fun hk => bestTo_succ (wt := wt) (N := N) (k := i) hk
  obtain ⟨best, hbest⟩ : ∃ best, bestTo wt N i = best := ⟨_, rfl⟩
  rw [hbest] at hL hbe hsuc
  replace hsuc := Asd.mk hsuc
  obtain ⟨Al, cl, rfl, _, _⟩ := hL.slice
  have hbw := Asd.mk (below_st hbX.out hbr)
  have a0r := cell_below hbr a0
  have b0r := cell_below hbr b0
  have b1r := cell_below hbr b1
  have zr : w.heap.size + 1 < wr.heap.size := by have := hbr.size; omega
  have hb60 : best.length ≤ 60 := by have := hNl.out; omega
  replace hL := Asd.mk hL
  replace hbr := Asd.mk hbr
  clear hbe
  by_cases hlt : i < x.Runs.length
  ·have hiN : i < N.length := by rw [hNl.out]; exact hlt
   obtain ⟨ax, cx, v6, he, k0, _⟩ := Run.elem (g1.out.below hbw.out) hlt
   cases he
   rw [← hNk.out i hiN hlt] at k0
   have hst1 := hsuc.out hiN
   obtain ⟨g, hg⟩ : ∃ g, N[i] = g := ⟨_, rfl⟩
   rw [hg] at k0 hst1
   have hiz : (i : Int) < (x.Runs.length : Int) := by omega
   clear hbest
   go_wp2_with fail
   refine (l6Far_calls W x g _ (hW.out.below (hbw.out.trans ((show Below wr.heap.size wr _ from by repeat first|with_reducible (first|exact Below.refl _ _|refine below_al ?_ _|refine below_dr ?_ _|refine below_d1 ?_)|(with_reducible refine Below.setCell ?_ ?_ _;rotate_left;next => first|(simp;done)|(simp;omega)|omega)).mono hbw.out.size))) (h.out.below (hbw.out.trans ((show Below wr.heap.size wr _ from by repeat first|with_reducible (first|exact Below.refl _ _|refine below_al ?_ _|refine below_dr ?_ _|refine below_d1 ?_)|(with_reducible refine Below.setCell ?_ ?_ _;rotate_left;next => first|(simp;done)|(simp;omega)|omega)).mono hbw.out.size))) hw hI (by omega)).mono ?_
   rw [hwt2.out, hNe2.out]
   rintro e' w3 ⟨fb, rfl, zfb, hF, hb⟩
   have hb3 := Asd.mk (show Below wr.heap.size wr w3 from by repeat first|with_reducible (first|exact Below.refl _ _|exact hb|refine below_al ?_ _|refine below_dr ?_ _|refine below_d1 ?_)|(with_reducible refine Below.setCell ?_ ?_ _;rotate_left;next => first|(simp;done)|(simp;omega)|omega))
   have zfb3 : wr.heap.size ≤ fb := by simpa using zfb
   have hFi := (hF.cell (j := i) (by rw [farF_length]; exact hiN)).1
   rw [farF_get hiN (by rw [farF_length]; exact hiN) (by rw [hg]; exact ltS_irr g), hg] at hFi
   obtain ⟨n, hn⟩ : ∃ n, farU wt g N.length g = n := ⟨_, rfl⟩
   rw [hn] at hFi
   have hnN : n ≤ 60 := by rw [← hn]; have := farU_le (wt := wt) (g := g) N.length g; have := hNl.out; omega
   have hL3 := Asd.mk (hL.out.below hb3.out)
   have hbX3 := Asd.mk (below_st hbr.out hb3.out)
   have hbw3 := Asd.mk (below_st hbw.out hb3.out)
   replace a0r := cell_below hb3.out a0r
   replace b0r := cell_below hb3.out b0r
   replace b1r := cell_below hb3.out b1r
   have zr3 : w.heap.size + 1 < w3.heap.size := by have := hb3.out.size; omega
   have zf3 : fb < w3.heap.size := hF.lt (by rw [farF_length]; omega)
   replace hF := Asd.mk hF
   clear hb zfb k0
   unfold circStep at hst1
   rw [hn] at hst1
   by_cases hc : n = 0 ∨ (0 < best.length ∧ best.length ≤ n)
   ·rw [if_pos hc] at hst1
    have hst2 := Asd.mk hst1
    have hgo : ∃ u, (if n = 0 then true else if best.length = 0 then false else decide (best.length ≤ n)) = u ∧ u = true := by
     refine ⟨_, rfl, ?_⟩
     by_cases h0 : n = 0
     ·rw [if_pos h0]
     ·rw [if_neg h0, if_neg (by omega), decide_eq_true (by omega)]
    clear hgo hst1
    rcases hc with h0 | ⟨h1, h2⟩
    ·subst h0
     go_wp2
     go_roundw
     case rel => exact ⟨i + 1, by omega, by go_num, by rw [hst2.out]; exact hL3.out, hbX3.out⟩
     case measure => simp [intOf]; omega
    ·by_cases h0 : n = 0
     ·subst h0
      go_wp2
      go_roundw
      case rel => exact ⟨i + 1, by omega, by go_num, by rw [hst2.out]; exact hL3.out, hbX3.out⟩
      case measure => simp [intOf]; omega
     ·go_wp2
      go_roundw
      case rel => exact ⟨i + 1, by omega, by go_num, by rw [hst2.out]; exact hL3.out, hbX3.out⟩
      case measure => simp [intOf]; omega
   ·rw [if_neg hc] at hst1
    have h0 : n ≠ 0 := fun e => hc (.inl e)
    obtain ⟨T, hT⟩ : ∃ T, bestTo wt N (i + 1) = T := ⟨_, rfl⟩
    rw [hT] at hst1
    replace hT := Asd.mk hT
    have hat := Asd.mk (show WayI wt g N.length n T [] g from ⟨by simpa using hn, by omega, by rw [hst1, hn]; rfl⟩)
    have hTl := Asd.mk (show T.length ≤ 60 by rw [← hT.out]; have h1 := hbl.out (i + 1) (by omega); have h2 := hNl.out; omega)
    replace hc := Asd.mk hc
    clear hst1
    go_upto_region 8 with (fail)
    go_cut [47] (fun s47 wx => s47 = .bool false ∧ wx = w3)
    case first =>
     have hc2 : best.length = 0 ∨ n < best.length := by have := hc.out; omega
     have hne0 : ((n : Int) == 0) = false := by rw [beq_eq_false_iff_ne]; omega
     rcases hc2 with h1 | h1
     ·go_wp2
      go_meet
      exact ⟨rfl, rfl⟩
     ·have h2 : 0 < best.length := by omega
      have h3 : ¬best.length ≤ n := by omega
      go_wp2
      go_meet
      exact ⟨rfl, rfl⟩
    case rest =>
     obtain ⟨rfl, rfl⟩ := hcut
     obtain ⟨Z, eZ⟩ : ∃ Z, Z = wc := ⟨_, rfl⟩
     rw [← eZ] at hL3 hbX3 hbw3 a0r b0r b1r zr3 zf3 hF hb3 hFi ⊢
     clear eZ
     go_upto_region 10 with (fail)
     go_loopg [10] (n + 1) (fun kx s10 wy => ∃ (pre : List ByteArray) (u : ByteArray), WayI wt g N.length n T pre u ∧ farU wt g N.length u + 1 ≤ kx ∧ Lie Z.heap.size wy (strsT 9 (pre ++ [u])) s10 ∧ Below Z.heap.size Z wy)
     case atStart => exact ⟨[], g, hat.out, by rw [hn]; omega, Lie.lit1 _ _, by repeat first|with_reducible (first|exact Below.refl _ _|refine below_al ?_ _|refine below_dr ?_ _|refine below_d1 ?_)|(with_reducible refine Below.setCell ?_ ?_ _;rotate_left;next => first|(simp;done)|(simp;omega)|omega)⟩
     case round =>
      obtain ⟨pre, u, hway, hkx, hLc, hby⟩ := hrel
      obtain ⟨Ac, cc, rfl, _, _⟩ := hLc.slice
      have hbyw := Asd.mk (below_st hbw3.out hby)
      have hlc : (pre ++ [u]).length = pre.length + 1 := by simp
      rw [hlc] at hLc ⊢
      have hf1 := hway.far
      have hf2 := hway.pos
      by_cases hone : farU wt g N.length u = 1
      ·have hd := Asd.mk (hway.done hone)
       rw [hone] at hf1
       have hnl2 : n = pre.length + 1 := by omega
       subst hnl2
       have hL9 := Asd.mk (show Lie w.heap.size wr (strsT 9 (bestTo wt N (i + 1))) (.slice Ac (pre.length + 1) cc) by rw [hT.out, ← hd.out]; exact hLc.mono hbw3.out.size)
       have hb9 := Asd.mk (below_st hbX3.out hby)
       clear hLc hway hby hlc
       go_wp2
       go_roundw
       case rel => exact ⟨i + 1, by omega, by go_num, hL9.out, hb9.out⟩
       case measure => simp [intOf]; omega
      ·obtain ⟨m, hm⟩ : ∃ m, farU wt g N.length u = m + 2 := ⟨farU wt g N.length u - 2, by omega⟩
       obtain ⟨xn, hfi, hway2⟩ := hway.next hm
       have hxn := wk_find hm
       rw [hm] at hf1
       have hltn : pre.length + 1 < n := by omega
       obtain ⟨al, c', he, hcell⟩ := str_elem hLc.rep (i := pre.length) (by rw [hlc]; omega)
       rw [hlc] at he
       cases he
       have hcu : (pre ++ [u])[pre.length]'(by rw [hlc]; omega) = u := by simp
       rw [hcu] at hcell
       obtain ⟨ln, hln⟩ : ∃ ln, pre.length + 1 = ln := ⟨_, rfl⟩
       rw [hln] at hLc hlc hltn ⊢
       have hix : IntKind.i64.wrap ((ln : Int) - 1) = (pre.length : Int) := by rw [IntKind.wrap_i64]; omega
       have hnl := Asd.mk (show IntKind.i64.wrap ((n : Int) - (ln : Int)) = ((m + 1 : Nat) : Int) by rw [IntKind.wrap_i64]; omega)
       have hln60 : ln ≤ 60 := by omega
       obtain ⟨lp, hlp⟩ : ∃ lp, pre.length = lp := ⟨_, rfl⟩
       rw [hlp] at hcell hix
       have hlpn : lp < ln := by omega
       have hlpi : (lp : Int) < (ln : Int) := by omega
       replace hlp := Asd.mk hlp
       replace hln := Asd.mk hln
       have a0y := cell_below hby a0r
       have b0y := cell_below hby b0r
       have b1y := cell_below hby b1r
       have zy : w.heap.size + 1 < wr.heap.size := by have := hby.size; omega
       have hFy := Asd.mk (hF.out.below (by rw [farF_length]; omega) hby)
       replace hLc := Asd.mk hLc
       replace hby := Asd.mk hby
       replace hway := Asd.mk hway
       replace hway2 := Asd.mk hway2
       replace hm := Asd.mk hm
       replace hfi := Asd.mk hfi
       replace hlc := Asd.mk hlc
       replace hcu := Asd.mk hcu
       clear hone
       go_upto_region 11 with (fail)
       go_still_tail 8, (by kernel_rfl)
       change wpList _ _ _ _ _ wr.drew
       go_wp2_with fail
       refine (l6Waits_calls W x u _ (hW.out.below (hbyw.out.trans ((show Below wr.heap.size wr _ from by repeat first|with_reducible (first|exact Below.refl _ _|refine below_al ?_ _|refine below_dr ?_ _|refine below_d1 ?_)|(with_reducible refine Below.setCell ?_ ?_ _;rotate_left;next => first|(simp;done)|(simp;omega)|omega)).mono hbyw.out.size))) (h.out.below (hbyw.out.trans ((show Below wr.heap.size wr _ from by repeat first|with_reducible (first|exact Below.refl _ _|refine below_al ?_ _|refine below_dr ?_ _|refine below_d1 ?_)|(with_reducible refine Below.setCell ?_ ?_ _;rotate_left;next => first|(simp;done)|(simp;omega)|omega)).mono hbyw.out.size))) hw hI).mono ?_
       rw [hwt.out]
       rintro e' w7 ⟨v7, rfl, ⟨F7, o7, _, _⟩, hb⟩
       have hr7 := Asd.mk o7.rep
       obtain ⟨A7, c7, rfl, _, _⟩ := own_slice o7
       have hb7 := Asd.mk (below_st (show Below wr.heap.size wr _ from by repeat first|with_reducible (first|exact Below.refl _ _|refine below_al ?_ _|refine below_dr ?_ _|refine below_d1 ?_)|(with_reducible refine Below.setCell ?_ ?_ _;rotate_left;next => first|(simp;done)|(simp;omega)|omega)) hb)
       have hwy := hwl.out u
       have hNu := Asd.mk (hN.out u)
       obtain ⟨l, hl⟩ : ∃ l, wt u = l := ⟨_, rfl⟩
       rw [hl] at hr7 hwy hNu hfi ⊢
       have hLc7 := Asd.mk (hLc.out.below hb7.out)
       have hbZ7 := Asd.mk (below_st hby.out hb7.out)
       have hbw7 := Asd.mk (below_st hbyw.out hb7.out)
       have hF7 := Asd.mk (hFy.out.below (by rw [farF_length]; omega) hb7.out)
       replace a0y := cell_below hb7.out a0y
       replace b0y := cell_below hb7.out b0y
       replace b1y := cell_below hb7.out b1y
       clear hb o7 hcell hl
       go_wp2
       go_loopw [10, 12] (fun s10 s12 wz => ∃ kk : Nat, kk ≤ l.length ∧ s12 = .int .i64 kk ∧ s10 = .slice (some al) ln cc ∧ (∀ (i2 : Nat) (h2 : i2 < l.length), i2 < kk → (ltS g l[i2] && decide (farU wt g N.length l[i2] = m + 1)) = false) ∧ Below w7.heap.size w7 wz) (fun _ s12 _ => l.length - (intOf s12).toNat)
       case atStart => exact ⟨0, by omega, rfl, rfl, fun i2 h2 h3 => by omega, Below.refl _ _⟩
       case round =>
        obtain ⟨kk, hkk, rfl, rfl, hno, hbz⟩ := hrel
        have hbzw := Asd.mk (below_st hbw7.out hbz)
        have hbzZ := Asd.mk (below_st hbZ7.out hbz)
        have b0z := cell_below hbz b0y
        have b1z := cell_below hbz b1y
        have hFz := Asd.mk (hF7.out.below (by rw [farF_length]; omega) hbz)
        have hLz := Asd.mk (hLc7.out.below hbz)
        by_cases hlt3 : kk < l.length
        ·obtain ⟨ay, c'', he, hcell⟩ := str_elem (hr7.out.below hbz) hlt3
         cases he
         have hNy := hNu.out l[kk] (List.getElem_mem hlt3)
         have hnx := Asd.mk (show (ltS g l[kk] && decide (farU wt g N.length l[kk] = m + 1)) = true → l[kk] = xn from fun hp => find_first hfi.out hlt3 hno hp)
         have hno2 := Asd.mk (show (ltS g l[kk] && decide (farU wt g N.length l[kk] = m + 1)) = false → ∀ (i2 : Nat) (h2 : i2 < l.length), i2 < kk + 1 → (ltS g l[i2] && decide (farU wt g N.length l[i2] = m + 1)) = false from fun hp i2 h2 h3 => by
          by_cases e : i2 = kk
          ·subst e; exact hp
          ·exact hno i2 h2 (by omega))
         obtain ⟨y, hy⟩ : ∃ y, l[kk] = y := ⟨_, rfl⟩
         rw [hy] at hcell hNy hnx
         have hno3 := hno2.out
         rw [hy] at hno3
         replace hno3 := Asd.mk hno3
         replace hNy := Asd.mk hNy
         replace hy := Asd.mk hy
         replace hbz := Asd.mk hbz
         clear hno hno2
         go_upto_region 15 with (fail)
         go_cut [90] (fun s90 wx => s90 = .bool (ltS g y && decide (farU wt g N.length y = m + 1)) ∧ Below wr.heap.size wr wx)
         case first =>
          have hgg : ltS g y = Op.bytesLess g.toList y.toList := rfl
          by_cases hgy : ltS g y = true
          ·have hyg1 : Op.bytesLess y.toList g.toList = false := ltS_asymm hgy
           have hyg2 : (y.toList == g.toList) = false := by rw [Bool.eq_false_iff]; exact fun h => by rw [(ba_eq _ _).1 h, ltS_irr] at hgy; cases hgy
           obtain ⟨ry, hry⟩ := hNy.out
           obtain ⟨jx, hjx, hM, hri⟩ := atR_some hry
           have hjN : jx < N.length := by rw [hNl.out]; exact hjx
           have hNj : N[jx] = y := by rw [hNk.out jx hjN hjx, hri]; exact (runOf_some hry).2
           have hcj := (hFz.out.cell (j := jx) (by rw [farF_length]; exact hjN)).1
           rw [farF_get hjN (by rw [farF_length]; exact hjN) (by rw [hNj]; exact ltS_asymm hgy), hNj] at hcj
           obtain ⟨fj, hfj⟩ : ∃ fj, farU wt g N.length y = fj := ⟨_, rfl⟩
           rw [hfj] at hcj
           have e1 := Asd.mk (show (ltS g y && decide (farU wt g N.length y = m + 1)) = ((fj : Int) == ((m + 1 : Nat) : Int)) by rw [hgy, hfj, Bool.true_and, Bool.eq_iff_iff, beq_iff_eq, decide_eq_true_eq]; omega)
           have hM2 := Asd.mk hM
           have hjn : (jx : Int) < (x.Runs.length : Int) := by omega
           replace hgy := Asd.mk hgy
           clear hgg hry hM hri hNj hfj
           have hnl2 := hnl.out
           have hkeep := Asd.mk (show ∀ Y, Below wr.heap.size wr Y → (Below wr.heap.size wr Y ∧ Y.cell? ⟨w.heap.size + 1, 0, none⟩ = some (.slice D x.Roots.length k) ∧ Y.cell? ⟨w.heap.size + 1, 1, none⟩ = some (.slice (some ax) x.Runs.length d) ∧ Y.cell? (ay.add kk) = some (.string y) ∧ Y.cell? ⟨fb, jx, none⟩ = some (.int .i64 fj)) from fun Y hb => ⟨hb, cell_below hb b0z, cell_below hb b1z, cell_below hb hcell, cell_below hb hcj⟩)
           have s_0 : Below wr.heap.size wr wr.drew := (Below.refl _ _).drew
           refine wp_region_held_drew (S := fun Y => Below wr.heap.size wr Y ∧ Y.cell? ⟨w.heap.size + 1, 0, none⟩ = some (.slice D x.Roots.length k) ∧ Y.cell? ⟨w.heap.size + 1, 1, none⟩ = some (.slice (some ax) x.Runs.length d) ∧ Y.cell? (ay.add kk) = some (.string y) ∧ Y.cell? ⟨fb, jx, none⟩ = some (.int .i64 fj)) (by kernel_rfl) (hkeep.out _ s_0) (fun hHeld => ?_)
           (((refine wH 0 (v:=?_) rfl (by kernel_rfl) (fun _ _ _ h => h) (by rfl) ?_ (by assumption) ?_;rotate_left;next => ((intro X hX;(try dsimp only at hX);go_simp);try with_reducible rfl));try simp only [Act.put,lA,lB,lC,lD,lE,lF]); ((refine wH 1 (v:=?_) rfl (by kernel_rfl) (fun _ _ _ h => h) (by rfl) ?_ (by assumption) ?_;rotate_left;next => ((intro X hX;(try dsimp only at hX);go_simp);try with_reducible rfl));try simp only [Act.put,lA,lB,lC,lD,lE,lF]); ((refine wH 2 (v:=?_) rfl (by kernel_rfl) (fun _ _ _ h => h) (by rfl) ?_ (by assumption) ?_;rotate_left;next => ((intro X hX;(try dsimp only at hX);go_simp);try with_reducible rfl));try simp only [Act.put,lA,lB,lC,lD,lE,lF]); ((refine wH 3 (v:=?_) rfl (by kernel_rfl) (fun _ _ _ h => h) (by rfl) ?_ (by assumption) ?_;rotate_left;next => ((intro X hX;(try dsimp only at hX);go_simp);try with_reducible rfl));try simp only [Act.put,lA,lB,lC,lD,lE,lF]); ((refine wH 4 (v:=?_) rfl (by kernel_rfl) (fun _ _ _ h => h) (by rfl) ?_ (by assumption) ?_;rotate_left;next => ((intro X hX;(try dsimp only at hX);go_simp);try with_reducible rfl));try simp only [Act.put,lA,lB,lC,lD,lE,lF]); ((refine wH 5 (v:=?_) rfl (by kernel_rfl) (fun _ _ _ h => h) (by rfl) ?_ (by assumption) ?_;rotate_left;next => ((intro X hX;(try dsimp only at hX);go_simp);try with_reducible rfl));try simp only [Act.put,lA,lB,lC,lD,lE,lF]); ((refine wH 6 (v:=?_) rfl (by kernel_rfl) (fun _ _ _ h => h) (by rfl) ?_ (by assumption) ?_;rotate_left;next => ((intro X hX;(try dsimp only at hX);go_simp);try with_reducible rfl));try simp only [Act.put,lA,lB,lC,lD,lE,lF]); ((refine wH 7 (v:=?_) rfl (by kernel_rfl) (fun _ _ _ h => h) (by rfl) ?_ (by assumption) ?_;rotate_left;next => ((intro X hX;(try dsimp only at hX);go_simp);try with_reducible rfl));try simp only [Act.put,lA,lB,lC,lD,lE,lF]); ((refine wH 8 (v:=?_) rfl (by kernel_rfl) (fun _ _ _ h => h) (by rfl) ?_ (by assumption) ?_;rotate_left;next => ((intro X hX;(try dsimp only at hX);go_simp);try with_reducible rfl));try simp only [Act.put,lA,lB,lC,lD,lE,lF]); ((refine wH 9 (v:=?_) rfl (by kernel_rfl) (fun _ _ _ h => h) (by rfl) ?_ (by assumption) ?_;rotate_left;next => ((intro X hX;(try dsimp only at hX);go_simp);try with_reducible rfl));try simp only [Act.put,lA,lB,lC,lD,lE,lF]); ((refine wH 10 (v:=?_) rfl (by kernel_rfl) (fun _ _ _ h => h) (by rfl) ?_ (by assumption) ?_;rotate_left;next => ((intro X hX;(try dsimp only at hX);go_simp);try with_reducible rfl));try simp only [Act.put,lA,lB,lC,lD,lE,lF]); ((refine wH 11 (v:=?_) rfl (by kernel_rfl) (fun _ _ _ h => h) (by rfl) ?_ (by assumption) ?_;rotate_left;next => ((intro X hX;(try dsimp only at hX);go_simp);try with_reducible rfl));try simp only [Act.put,lA,lB,lC,lD,lE,lF]); ((refine wH 12 (v:=?_) rfl (by kernel_rfl) (fun _ _ _ h => h) (by rfl) ?_ (by assumption) ?_;rotate_left;next => ((intro X hX;(try dsimp only at hX);go_simp);try with_reducible rfl));try simp only [Act.put,lA,lB,lC,lD,lE,lF]); ((refine wH 16 (v:=?_) rfl (by kernel_rfl) (fun _ _ _ h => h) (by rfl) ?_ (by assumption) ?_;rotate_left;next => ((intro X hX;(try dsimp only at hX);go_simp);try with_reducible rfl));try simp only [Act.put,lA,lB,lC,lD,lE,lF]); ((refine wH 17 (v:=?_) rfl (by kernel_rfl) (fun _ _ _ h => h) (by rfl) ?_ (by assumption) ?_;rotate_left;next => ((intro X hX;(try dsimp only at hX);go_simp);try with_reducible rfl));try simp only [Act.put,lA,lB,lC,lD,lE,lF]); ((refine wH 18 (v:=?_) rfl (by kernel_rfl) (fun _ _ _ h => h) (by rfl) ?_ (by assumption) ?_;rotate_left;next => ((intro X hX;(try dsimp only at hX);go_simp);try with_reducible rfl));try simp only [Act.put,lA,lB,lC,lD,lE,lF]); ((refine wH 19 (v:=?_) rfl (by kernel_rfl) (fun _ _ _ h => h) (by rfl) ?_ (by assumption) ?_;rotate_left;next => ((intro X hX;(try dsimp only at hX);go_simp);try with_reducible rfl));try simp only [Act.put,lA,lB,lC,lD,lE,lF]))
           (refine wpAnyH_ready (rs := [13]) (by kernel_rfl) (by simp) ?_; refine AllReadyH.cons rfl (fun K hK => ?_) AllReadyH.nil)
           go_simp
           refine (l4At_calls x y _ (h.out.below (hbzw.out.trans ((show Below wr.heap.size wr _ from by repeat first|with_reducible (first|exact Below.refl _ _|exact s_0|refine below_al ?_ _|refine below_dr ?_ _|refine below_d1 ?_)|(with_reducible refine Below.setCell ?_ ?_ _;rotate_left;next => first|(simp;done)|(simp;omega)|omega)).mono hbzw.out.size)))).mono ?_
           rw [hM2.out]
           rintro e' w8 ⟨rfl, hb⟩
           have hb8 := below_st (show Below wr.heap.size wr _ from by repeat first|with_reducible (first|exact Below.refl _ _|exact s_0|refine below_al ?_ _|refine below_dr ?_ _|refine below_d1 ?_)|(with_reducible refine Below.setCell ?_ ?_ _;rotate_left;next => first|(simp;done)|(simp;omega)|omega)) hb
           clear hb s_0
           refine hK.out _ _ (hkeep.out _ hb8) (fun hHeld => ?_)
           clear hK K
           (((refine wH 14 (v:=?_) rfl (by kernel_rfl) (fun _ _ _ h => h) (by rfl) ?_ (by assumption) ?_;rotate_left;next => ((intro X hX;(try dsimp only at hX);go_simp);try with_reducible rfl));try simp only [Act.put,lA,lB,lC,lD,lE,lF]); ((refine wH 15 (v:=?_) rfl (by kernel_rfl) (fun _ _ _ h => h) (by rfl) ?_ (by assumption) ?_;rotate_left;next => ((intro X hX;(try dsimp only at hX);go_simp);try with_reducible rfl));try simp only [Act.put,lA,lB,lC,lD,lE,lF]); ((refine wH 20 (v:=?_) rfl (by kernel_rfl) (fun _ _ _ h => h) (by rfl) ?_ (by assumption) ?_;rotate_left;next => ((intro X hX;(try dsimp only at hX);go_simp);try with_reducible rfl));try simp only [Act.put,lA,lB,lC,lD,lE,lF]); ((refine wH 21 (v:=?_) rfl (by kernel_rfl) (fun _ _ _ h => h) (by rfl) ?_ (by assumption) ?_;rotate_left;next => ((intro X hX;(try dsimp only at hX);go_simp);try with_reducible rfl));try simp only [Act.put,lA,lB,lC,lD,lE,lF]))
           refine wpAnyH_done (by kernel_rfl) ?_ _
           go_wp2_with fail
           go_meet
           exact ⟨by rw [e1.out]; try simp, hb8⟩
          ·have e1 := Asd.mk (show (ltS g y && decide (farU wt g N.length y = m + 1)) = false by rw [Bool.eq_false_iff.2 hgy]; rfl)
           clear hgg
           by_cases hyg : y = g
           ·have hyg2 : (y.toList == g.toList) = true := (ba_eq _ _).2 hyg
            replace hyg := Asd.mk hyg
            replace hgy := Asd.mk hgy
            go_quiet (fail)
            go_wp2
            go_meet
            exact ⟨by rw [e1.out], by repeat first|with_reducible (first|exact Below.refl _ _|refine below_al ?_ _|refine below_dr ?_ _|refine below_d1 ?_)|(with_reducible refine Below.setCell ?_ ?_ _;rotate_left;next => first|(simp;done)|(simp;omega)|omega)⟩
           ·have hyg1 : Op.bytesLess y.toList g.toList = true := by
             cases hq : Op.bytesLess y.toList g.toList with
             | true => rfl
             | false => exact absurd (ltS_tri hq (Bool.eq_false_iff.2 hgy)) hyg
            replace hyg := Asd.mk hyg
            replace hgy := Asd.mk hgy
            go_quiet (fail)
            go_wp2
            go_meet
            exact ⟨by rw [e1.out], by repeat first|with_reducible (first|exact Below.refl _ _|refine below_al ?_ _|refine below_dr ?_ _|refine below_d1 ?_)|(with_reducible refine Below.setCell ?_ ?_ _;rotate_left;next => first|(simp;done)|(simp;omega)|omega)⟩
         case rest =>
          obtain ⟨rfl, hbc⟩ := hcut
          obtain ⟨Q, eQ⟩ : ∃ Q, Q = wc := ⟨_, rfl⟩
          rw [← eQ] at hbc ⊢
          clear eQ
          have hb9 := Asd.mk (below_st hbz.out hbc)
          have hb9Z := Asd.mk (below_st hbzZ.out hbc)
          have hLQ := Asd.mk (hLz.out.below hbc)
          replace hcell := cell_below hbc hcell
          obtain ⟨pb, hpb⟩ : ∃ pb, (ltS g y && decide (farU wt g N.length y = m + 1)) = pb := ⟨_, rfl⟩
          rw [hpb] at hnx hno3 ⊢
          clear hpb hbc b0z b1z
          cases pb with
          | false =>
           go_wp2
           go_roundw
           case rel => exact ⟨kk + 1, by omega, by go_num, rfl, hno3.out rfl, hb9.out⟩
           case measure => simp [intOf]; omega
          | true =>
           have hyx := Asd.mk (hnx.out rfl)
           have hlp2 : (pre ++ [u]).length ≤ 1000000 := by rw [hlc.out]; omega
           go_wp2_with (at_builtin; refine appStr rfl rfl rfl (lo := Z.heap.size) (wr := Q) hb9Z.out.size (hlc.out ▸ hLQ.out) (by repeat first|with_reducible (first|exact Below.refl _ _|refine below_al ?_ _|refine below_dr ?_ _|refine below_d1 ?_)|(with_reducible refine Below.setCell ?_ ?_ _;rotate_left;next => first|(simp;done)|(simp;omega)|omega)) rfl (heap_alloc_new _ _) hlp2 ?_)
           intro v9 w9 hL9 hF9
           have hx9 := Asd.mk (show Lie Z.heap.size w9 (strsT 9 ((pre ++ [u]) ++ [xn])) v9 by rw [List.append_assoc]; exact hyx.out ▸ hL9)
           have hb10 := Asd.mk (Far.trans (below_st hb9Z.out (show Below Q.heap.size Q (Q.alloc (.cells #[.string y] 9)) from by repeat first|with_reducible (first|exact Below.refl _ _|refine below_al ?_ _|refine below_dr ?_ _|refine below_d1 ?_)|(with_reducible refine Below.setCell ?_ ?_ _;rotate_left;next => first|(simp;done)|(simp;omega)|omega))) hF9 (Nat.le_refl _) (by have := hb9Z.out.size; simp; omega))
           clear hL9 hF9
           go_wp2
           go_roundg (m + 2)
           case rel => exact ⟨pre ++ [u], xn, hway2.out, by have := hway2.out.far; have h5 := hway.out.far; rw [hm.out] at h5; simp at this; omega, hx9.out, hb10.out⟩
           case measure => rw [hm.out] at hkx; omega
        ·obtain rfl : kk = l.length := by omega
         exact (find_some_lt hfi.out (fun i2 h2 => hno i2 h2 h2)).elim
  ·obtain rfl : i = x.Runs.length := by omega
   have e9 := Asd.mk (show best = circleU wt N by rw [← hbest, ← hNl.out, bestTo_end])
   clear hbest
   go_wp2
   go_ret
   rw [← e9.out]
   exact ⟨_, rfl, hL.out.made, hbw.out⟩
theorem OnlyB.mfr {b : Nat} {w w' : World} (h : OnlyB b w w') : MFr [b] w w' := ⟨h.os, h.tape, h.output, Nat.le_of_eq h.size.symm, fun k _ hn => h.block k (fun e => hn (by rw [e]; simp))⟩
theorem OnlyB.upon {b B : Nat} {W w w' : World} (h : OnlyB b w w') (hb : Below B W w) (hB : B ≤ W.heap.size) (hbB : B ≤ b) : Below B W w' :=
 MFr.upon h.mfr hb hB (fun k hk => by simp at hk; omega)
section
variable {Pg : Program} {w : World} {ops : Array Oper} {rest : List Oper} {o : Oper} {a : Act} {Q : Exit → Act → World → Prop} {b r : Nat} {C L : List (ByteArray × Value)}
end
def updD (f : ByteArray → Option Nat) (u : ByteArray) (d : Nat) (q : ByteArray) : Option Nat := if q = u then some d else f q
def oneD (f : ByteArray → Option Nat) (u : ByteArray) : Nat := if (f u).isSome then 1 else 0
def cntD (f : ByteArray → Option Nat) (N : List ByteArray) : Nat := (N.map (oneD f)).sum
def valD (f : ByteArray → Option Nat) (u : ByteArray) : Nat := match f u with
 | none => 61
 | some d => d
def muD (f : ByteArray → Option Nat) (N : List ByteArray) : Nat := (N.map (valD f)).sum
theorem cntD_le (f : ByteArray → Option Nat) : ∀ (N : List ByteArray), cntD f N ≤ N.length
 | [] => Nat.le_refl _
 | x :: N => by
  have := cntD_le f N
  unfold cntD at this ⊢
  rw [List.map_cons, List.sum_cons, List.length_cons]
  have : oneD f x ≤ 1 := by unfold oneD; split <;> omega
  omega
structure DI (wt : ByteArray → List ByteArray) (N : List ByteArray) (v : ByteArray) (f : ByteArray → Option Nat) : Prop where
 base : f v = some 0
 walk : ∀ u d, f u = some d → u ≠ v → ltS v u = true ∧ 0 < d ∧ wkB wt v d u = true
 small : ∀ u d, f u = some d → d < cntD f N
section
variable {wt : ByteArray → List ByteArray} {N : List ByteArray} {v : ByteArray} {f : ByteArray → Option Nat}
def startD (v : ByteArray) (q : ByteArray) : Option Nat := if q = v then some 0 else none
theorem DI.start (hv : v ∈ N) : DI wt N v (startD v) := by
 have hb : startD v v = some 0 := if_pos rfl
 refine ⟨hb, fun u d h hne => ?_, fun u d h => ?_⟩
 ·unfold startD at h; rw [if_neg hne] at h; cases h
 ·unfold startD at h
  split at h
  ·cases h
   have : (N.map (fun _ => 0)).sum < cntD (startD v) N := sum_lt (fun x _ => Nat.zero_le _) ⟨v, hv, by unfold oneD; rw [hb]; simp⟩
   omega
  ·cases h
theorem step_wk (h : DI wt N v f) {u x : ByteArray} {d : Nat} (hx : x ∈ wt u) (hd : f x = some d) : wkB wt v (d + 1) u = true := by
 by_cases e : x = v
 ·subst e
  rw [h.base] at hd
  cases hd
  simp only [wkB, List.any_eq_true, decide_eq_true_eq]
  exact ⟨x, hx, rfl⟩
 ·obtain ⟨h1, h2, h3⟩ := h.walk x d hd e
  obtain ⟨k, rfl⟩ : ∃ k, d = k + 1 := ⟨d - 1, by omega⟩
  simp only [wkB, List.any_eq_true, Bool.and_eq_true]
  exact ⟨x, hx, h1, h3⟩
theorem DI.set (h : DI wt N v f) {u x : ByteArray} {d : Nat} (hN : N.length ≤ 60) (hu : u ∈ N) (huv : ltS v u = true) (hx : x ∈ wt u) (hd : f x = some d) (hless : ∀ o, f u = some o → d + 1 < o) :
  DI wt N v (updD f u (d + 1)) ∧ muD (updD f u (d + 1)) N < muD f N := by
 have hne : u ≠ v := by rintro rfl; rw [ltS_irr] at huv; cases huv
 have hs := h.small x d hd
 have hc := cntD_le f N
 have huu : updD f u (d + 1) u = some (d + 1) := if_pos rfl
 have hcle : cntD f N ≤ cntD (updD f u (d + 1)) N := sum_le (fun y _ => by
  unfold oneD updD
  by_cases e : y = u
  ·rw [if_pos e]; split <;> simp
  ·rw [if_neg e]; exact Nat.le_refl _)
 refine ⟨⟨?_, fun y k hy hyv => ?_, fun y k hy => ?_⟩, ?_⟩
 ·unfold updD; rw [if_neg (fun e => hne e.symm)]; exact h.base
 ·unfold updD at hy
  by_cases e : y = u
  ·rw [if_pos e] at hy; cases hy; subst e
   exact ⟨huv, by omega, step_wk h hx hd⟩
  ·rw [if_neg e] at hy; exact h.walk y k hy hyv
 ·unfold updD at hy
  by_cases e : y = u
  ·rw [if_pos e] at hy; cases hy; subst e
   cases ho : f y with
   | some o =>
    have := hless o ho
    have := h.small y o ho
    omega
   | none =>
    have : cntD f N < cntD (updD f y (d + 1)) N := sum_lt (fun z _ => by
     unfold oneD updD
     by_cases e : z = y
     ·rw [if_pos e]; split <;> simp
     ·rw [if_neg e]; exact Nat.le_refl _) ⟨y, hu, by unfold oneD; rw [ho, huu]; simp⟩
    omega
  ·rw [if_neg e] at hy; have := h.small y k hy; omega
 ·refine sum_lt (fun y _ => ?_) ⟨u, hu, ?_⟩
  ·unfold valD updD
   by_cases e : y = u
   ·rw [if_pos e]
    simp only
    cases ho : f y with
    | none => simp only; omega
    | some o => have := hless o (e ▸ ho); simp only; omega
   ·rw [if_neg e]; exact Nat.le_refl _
  ·unfold valD
   rw [huu]
   simp only
   cases ho : f u with
   | none => simp only; omega
   | some o => have := hless o ho; simp only; omega
def FixD (wt : ByteArray → List ByteArray) (N : List ByteArray) (v : ByteArray) (f : ByteArray → Option Nat) : Prop := ∀ u ∈ N, ltS v u = true → ∀ x ∈ wt u, ∀ d, f x = some d → ∃ o, f u = some o ∧ o ≤ d + 1
theorem DI.reach (h : DI wt N v f) (hfix : FixD wt N v f) (hwt : ∀ u, ∀ x ∈ wt u, x ∈ N) : ∀ (m : Nat) {u : ByteArray}, u ∈ N → ltS v u = true → wkB wt v m u = true → ∃ o, f u = some o ∧ o ≤ m
 | 0, u, _, _, hk => by simp [wkB] at hk
 | 1, u, hu, hv, hk => by
  simp only [wkB, List.any_eq_true, decide_eq_true_eq] at hk
  obtain ⟨x, hx, rfl⟩ := hk
  exact hfix u hu hv x hx 0 h.base
 | m + 2, u, hu, hv, hk => by
  simp only [wkB, List.any_eq_true, Bool.and_eq_true] at hk
  obtain ⟨x, hx, hg, hk⟩ := hk
  obtain ⟨o, ho, hle⟩ := h.reach hfix hwt (m + 1) (hwt u x hx) hg hk
  obtain ⟨o2, h2, h3⟩ := hfix u hu hv x hx o ho
  exact ⟨o2, h2, by omega⟩
theorem DI.far (h : DI wt N v f) (hfix : FixD wt N v f) (hwt : ∀ u, ∀ x ∈ wt u, x ∈ N) {u : ByteArray} (hu : u ∈ N) (hv : ltS v u = true) (d : Nat) : f u = some d ↔ (0 < d ∧ farU wt v N.length u = d) := by
 have hne : u ≠ v := by rintro rfl; rw [ltS_irr] at hv; cases hv
 have key : ∀ o, f u = some o → farU wt v N.length u = o ∧ 0 < o := by
  intro o ho
  obtain ⟨_, h2, h3⟩ := h.walk u o ho hne
  obtain ⟨f1, f2⟩ := farU_all hwt hu h3
  obtain ⟨o2, ho2, hle⟩ := h.reach hfix hwt _ hu hv (farU_wk f1)
  rw [ho] at ho2
  cases ho2
  exact ⟨by omega, h2⟩
 constructor
 ·intro hd; exact ⟨(key d hd).2, (key d hd).1⟩
 ·rintro ⟨h1, h2⟩
  obtain ⟨o, ho, _⟩ := h.reach hfix hwt _ hu hv (farU_wk (by rw [h2]; omega))
  rw [ho, ← h2, (key o ho).1]
theorem DI.back (h : DI wt N v f) (hfix : FixD wt N v f) (hwt : ∀ u, ∀ x ∈ wt u, x ∈ N) (hv : v ∈ N) {n : Nat} (h0 : n = 0 → ∀ x ∈ wt v, f x = none) (h1 : n ≠ 0 → ∃ x ∈ wt v, f x = some (n - 1)) (h2 : ∀ x ∈ wt v, ∀ d, f x = some d → n ≤ d + 1) : n = farU wt v N.length v := by
 have main : ∀ m, wkB wt v m v = true → n ≠ 0 ∧ n ≤ m := by
  intro m hm
  have : ∃ x ∈ wt v, ∃ d, f x = some d ∧ d + 1 ≤ m := by
   cases m with
   | zero => simp [wkB] at hm
   | succ m =>
    cases m with
    | zero =>
     simp only [wkB, List.any_eq_true, decide_eq_true_eq] at hm
     obtain ⟨x, hx, rfl⟩ := hm
     exact ⟨x, hx, 0, h.base, by omega⟩
    | succ m =>
     simp only [wkB, List.any_eq_true, Bool.and_eq_true] at hm
     obtain ⟨x, hx, hg, hk⟩ := hm
     obtain ⟨o, ho, hle⟩ := h.reach hfix hwt (m + 1) (hwt v x hx) hg hk
     exact ⟨x, hx, o, ho, by omega⟩
  obtain ⟨x, hx, d, hd, hle⟩ := this
  refine ⟨fun e => ?_, by have := h2 x hx d hd; omega⟩
  rw [h0 e x hx] at hd; cases hd
 by_cases hn : n = 0
 ·rw [hn]
  by_cases hf : farU wt v N.length v = 0
  ·exact hf.symm
  ·exact absurd hn (main _ (farU_wk hf)).1
 ·obtain ⟨x, hx, hd⟩ := h1 hn
  have hk := step_wk h hx hd
  rw [show n - 1 + 1 = n by omega] at hk
  obtain ⟨f1, f2⟩ := farU_all hwt hv hk
  have := (main _ (farU_wk f1)).2
  omega
theorem DI.next (h : DI wt N v f) (hfix : FixD wt N v f) (hwt : ∀ u, ∀ x ∈ wt u, x ∈ N) {x : ByteArray} (hx : x ∈ N) (n : Nat) : (x ≠ v ∧ f x = some (n + 1)) ↔ (ltS v x && decide (farU wt v N.length x = n + 1)) = true := by
 rw [Bool.and_eq_true, decide_eq_true_eq]
 constructor
 ·rintro ⟨h1, h2⟩
  have h3 := (h.walk x _ h2 h1).1
  exact ⟨h3, ((h.far hfix hwt hx h3 _).1 h2).2⟩
 ·rintro ⟨h1, h2⟩
  refine ⟨?_, (h.far hfix hwt hx h1 _).2 ⟨by omega, h2⟩⟩
  rintro rfl
  rw [ltS_irr] at h1; cases h1
end
def intV (d : Nat) : Value := .int .i64 d
def IntC (C : List (ByteArray × Value)) (f : ByteArray → Option Nat) : Prop := ∀ q, lookC C q = (f q).map intV
def IntM (w : World) (M : Nat) (f : ByteArray → Option Nat) : Prop := ∃ C, MapAt w M C ∧ IntC C f
theorem lookI_map {C : List (ByteArray × Value)} {q : ByteArray} {v : Value} (x : ByteArray) : lookC (C.map (fun p => if p.1 = q then (p.1, v) else p)) x = if x = q then (lookC C q).map (fun _ => v) else lookC C x := by
 induction C with
 | nil => simp [lookC_nil]
 | cons p C ih =>
  rw [List.map_cons, lookC_cons, ih, lookC_cons, lookC_cons]
  by_cases h1 : p.1 = q
  ·rw [if_pos h1, if_pos h1]
   by_cases h2 : x = q
   ·rw [if_pos h2, if_pos h2, if_pos (h1.trans h2.symm)]; rfl
   ·rw [if_neg h2, if_neg h2, if_neg (fun e => h2 (e.symm.trans h1))]
    exact (if_neg (fun e => h2 (e.symm.trans h1))).symm
  ·rw [if_neg h1, if_neg h1]
   by_cases h2 : x = q
   ·rw [if_pos h2, if_pos h2, if_neg (fun e => h1 (e.trans h2))]
   ·rw [if_neg h2, if_neg h2]
theorem lookI_append (C : List (ByteArray × Value)) (q : ByteArray) (v : Value) (x : ByteArray) : lookC (C ++ [(q, v)]) x = (lookC C x).or (if q = x then some v else none) := by
 induction C with
 | nil => rw [List.nil_append, lookC_cons, lookC_nil]; rfl
 | cons p C ih =>
  rw [List.cons_append, lookC_cons, ih, lookC_cons]
  by_cases h : p.1 = x
  ·rw [if_pos h, if_pos h]; rfl
  ·rw [if_neg h, if_neg h]
theorem lookI_putC (C : List (ByteArray × Value)) (q : ByteArray) (v : Value) (x : ByteArray) : lookC (putC C q v) x = if x = q then some v else lookC C x := by
 unfold putC
 cases h : lookC C q with
 | none =>
  rw [if_neg (by simp), lookI_append]
  by_cases e : x = q
  ·subst e; rw [if_pos rfl, if_pos rfl, h]; rfl
  ·rw [if_neg (fun e2 => e e2.symm), if_neg e]; simp
 | some u =>
  rw [if_pos (by simp), lookI_map, h]; rfl
theorem IntC.put {C : List (ByteArray × Value)} {f : ByteArray → Option Nat} (h : IntC C f) (q : ByteArray) {v : Value} {d : Nat} (hv : v = intV d) : IntC (putC C q v) (updD f q d) := by
 intro x
 rw [lookI_putC]
 unfold updD
 by_cases e : x = q
 ·rw [if_pos e, if_pos e, hv]; rfl
 ·rw [if_neg e, if_neg e]; exact h x
theorem IntC.start (v : ByteArray) : IntC (putC [] v (.int .i64 0)) (startD v) := by
 intro x
 rw [lookI_putC]
 unfold startD
 by_cases e : x = v
 ·rw [if_pos e, if_pos e]; rfl
 ·rw [if_neg e, if_neg e]; rfl
theorem zero_runI (w : World) : (zeroValue 3).run Tryz.prog w = .ok (.int .i64 0) w := by kernel_rfl
theorem IntC.look {w : World} {M : Nat} {C : List (ByteArray × Value)} {f : ByteArray → Option Nat} (h : IntC C f) (hM : MapAt w M C) (q : ByteArray) : (Instr.lookup 143 (.map (some M)) (.string q) true).run Tryz.prog w = .ok (.tuple #[.int .i64 (((f q).getD 0 : Nat) : Int), .bool (f q).isSome]) w := by
 have := hM.look (Pg := Tryz.prog) Tryz.underlying143 Tryz.underlying9 (zero_runI w) q true
 rw [h q] at this
 rw [this]
 cases f q <;> rfl
section
variable {Pg : Program} {w : World} {ops : Array Oper} {rest : List Oper} {o : Oper} {a : Act} {Q : Exit → Act → World → Prop} {b : Nat} {C : List (ByteArray × Value)}
theorem wpMapIns (hg : o.guard = none) {m x v : Operand} {t kt et : TypeId} (hop : o.op = Op.insert t m x v) (ht : Pg.underlying t = some (.map kt et)) (hk : Pg.underlying kt = some .string) (hm : a.eval m = .map (some b)) (h : MapAt w b C)
  {q : ByteArray} {u : Value} (hx : a.eval x = .string q) (hv : a.eval v = u) (hK : ∀ w', MapAt w' b (putC C q u) → OnlyB b w w' → wpList Pg ops Q rest (a.put o.dst undef) w') : wpList Pg ops Q (o :: rest) a w := by
 refine wpList_plain hg fun K' hK' => ?_
 obtain ⟨w', hrun, r1, r2⟩ := h.update ht hk q u
 unfold Oper.wp
 simp [execOp, hop, hm, hx, hv, hrun, Result.andThen]
 exact hK' _ _ (hK w' r1 r2)
end
def FixK (l : List ByteArray) (f : ByteArray → Option Nat) (u : ByteArray) (k : Nat) : Prop := ∀ (i : Nat) (h : i < l.length), i < k → ∀ d, f l[i] = some d → ∃ o, f u = some o ∧ o ≤ d + 1
def FixTo (wt : ByteArray → List ByteArray) (N : List ByteArray) (v : ByteArray) (f : ByteArray → Option Nat) (j : Nat) : Prop := ∀ (i : Nat) (h : i < N.length), i < j → ltS v N[i] = true → FixK (wt N[i]) f N[i] (wt N[i]).length
theorem FixTo.end {wt : ByteArray → List ByteArray} {N : List ByteArray} {v : ByteArray} {f : ByteArray → Option Nat} (h : FixTo wt N v f N.length) : FixD wt N v f := by
 intro u hu hv x hx d hd
 obtain ⟨i, hi, rfl⟩ := List.getElem_of_mem hu
 obtain ⟨k, hk, rfl⟩ := List.getElem_of_mem hx
 exact h i hi hi hv k hk hk d hd
theorem FixTo.succ {wt : ByteArray → List ByteArray} {N : List ByteArray} {v : ByteArray} {f : ByteArray → Option Nat} {j : Nat} (hj : j < N.length) (h : FixTo wt N v f j) (h2 : ltS v N[j] = true → FixK (wt N[j]) f N[j] (wt N[j]).length) : FixTo wt N v f (j + 1) := by
 intro i hi hlt
 by_cases e : i = j
 ·subst e; exact h2
 ·exact h i hi (by omega)
theorem FixK.succ {l : List ByteArray} {f : ByteArray → Option Nat} {u : ByteArray} {k : Nat} (hk : k < l.length) (h : FixK l f u k) (h2 : ∀ d, f l[k] = some d → ∃ o, f u = some o ∧ o ≤ d + 1) : FixK l f u (k + 1) := by
 intro i hi hlt
 by_cases e : i = k
 ·subst e; exact h2
 ·exact h i hi (by omega)
structure NearI (l : List ByteArray) (f : ByteArray → Option Nat) (k n : Nat) : Prop where
 zero : n = 0 → ∀ (i : Nat) (h : i < l.length), i < k → f l[i] = none
 won : n ≠ 0 → ∃ x ∈ l, f x = some (n - 1)
 least : ∀ (i : Nat) (h : i < l.length), i < k → ∀ d, f l[i] = some d → n ≤ d + 1
theorem NearI.start (l : List ByteArray) (f : ByteArray → Option Nat) : NearI l f 0 0 := ⟨fun _ i _ h => by omega, fun h => absurd rfl h, fun i _ h => by omega⟩
theorem NearI.skip {l : List ByteArray} {f : ByteArray → Option Nat} {k n : Nat} (h : NearI l f k n) (hk : k < l.length) (h2 : f l[k] = none ∨ (n ≠ 0 ∧ ∃ d, f l[k] = some d ∧ n ≤ d + 1)) : NearI l f (k + 1) n := by
 refine ⟨fun h0 i hi hlt => ?_, h.won, fun i hi hlt d hd => ?_⟩
 ·by_cases e : i = k
  ·subst e
   rcases h2 with h2 | ⟨h2, _⟩
   ·exact h2
   ·exact absurd h0 h2
  ·exact h.zero h0 i hi (by omega)
 ·by_cases e : i = k
  ·subst e
   rcases h2 with h2 | ⟨_, d2, h2, h3⟩
   ·rw [h2] at hd; cases hd
   ·rw [h2] at hd; cases hd; exact h3
  ·exact h.least i hi (by omega) d hd
theorem NearI.take {l : List ByteArray} {f : ByteArray → Option Nat} {k n d : Nat} (h : NearI l f k n) (hk : k < l.length) (hd : f l[k] = some d) (h2 : n = 0 ∨ d + 1 < n) : NearI l f (k + 1) (d + 1) := by
 refine ⟨fun h0 => by omega, fun _ => ⟨l[k], List.getElem_mem hk, hd⟩, fun i hi hlt d2 hd2 => ?_⟩
 by_cases e : i = k
 ·subst e; rw [hd] at hd2; cases hd2; exact Nat.le_refl _
 ·rcases h2 with h2 | h2
  ·rw [h.zero h2 i hi (by omega)] at hd2; cases hd2
  ·have := h.least i hi (by omega) d2 hd2; omega
theorem NearI.end {wt : ByteArray → List ByteArray} {N : List ByteArray} {v : ByteArray} {f : ByteArray → Option Nat} (hD : DI wt N v f) (hfix : FixD wt N v f) (hwt : ∀ u, ∀ x ∈ wt u, x ∈ N) (hv : v ∈ N) {n : Nat} (h : NearI (wt v) f (wt v).length n) : farU wt v N.length v = n := by
 refine (hD.back hfix hwt hv (fun h0 x hx => ?_) h.won (fun x hx d hd => ?_)).symm
 ·obtain ⟨i, hi, rfl⟩ := List.getElem_of_mem hx
  exact h.zero h0 i hi hi
 ·obtain ⟨i, hi, rfl⟩ := List.getElem_of_mem hx
  exact h.least i hi hi d hd
def BestV (w : World) (lo : Nat) (v : Value) (l : List ByteArray) : Prop := Lie lo w (strsT 9 l) v ∧ ((l = [] ∧ v = .slice none 0 0) ∨ (l ≠ [] ∧ ∃ a c, v = .slice (some a) l.length c))
set_option maxRecDepth 100000 in
set_option maxHeartbeats 16000000 in
theorem circle_calls {lo : Nat} (W : Web) (roots : List ByteArray) (R : List Run) (e : Nat) (F : List Nat) (w : World) (h : Eng lo w W roots R e F) (hw : checkWeb W = 0) (hI : Inv W R) :
  Calls Tryz.prog 109 #[.pointer (some ⟨e, 0, none⟩)] w (MadeV w (strsT 9 (circleL W R))) := by
 have hE := Asd.mk h
 have hRl : R.length ≤ 60 := by have := hI.length hw; have := (checkWeb_ok hw).1; omega
 have hcir := Asd.mk (show circleL W R = circleU (waitsL W R) (R.map Run.Name) from rfl)
 obtain ⟨wt, hwt⟩ : ∃ wt, waitsL W R = wt := ⟨_, rfl⟩
 obtain ⟨N, hNe⟩ : ∃ N, R.map Run.Name = N := ⟨_, rfl⟩
 have hNl : N.length ≤ 60 := by rw [← hNe, List.length_map]; exact hRl
 have hN := Asd.mk (show ∀ u, ∀ y ∈ wt u, y ∈ N by rw [← hNe, ← hwt]; exact fun u y hy => waits_names u y hy)
 have hwl := Asd.mk (show ∀ u, (wt u).length ≤ 60 by intro u; rw [← hwt]; exact Nat.le_trans (insS_len _) (Nat.le_trans (waits_len hw hI u).1 (by decide)))
 rw [hwt, hNe] at hcir
 rw [hcir.out]
 replace hwt := Asd.mk (fun u => congrFun hwt u)
 replace hNe := Asd.mk hNe
 have hbl := Asd.mk (bestTo_len wt N)
 have hmm := @run_makeMap Tryz.prog
 replace hI := Asd.mk hI
 clear h
 go_enter Tryz.func109, Tryz.ntmps109
 go_wp2_with fail
 refine (names_calls W roots R e F _ (hE.out.later (by repeat first|with_reducible (first|exact Below.refl _ _|refine below_al ?_ _|refine below_dr ?_ _|refine below_d1 ?_)|(with_reducible refine Below.setCell ?_ ?_ _;rotate_left;next => first|(simp;done)|(simp;omega)|omega))) (by omega)).mono ?_
 rw [hNe.out]
 rintro e' w2 ⟨v2, rfl, ⟨Fn, on, nn, ln⟩, hb⟩
 obtain ⟨A2, d2, rfl, _, _⟩ := own_slice on
 have hb2 := Asd.mk (show Below w.heap.size w w2 from by repeat first|with_reducible (first|exact Below.refl _ _|exact hb|refine below_al ?_ _|refine below_dr ?_ _|refine below_d1 ?_)|(with_reducible refine Below.setCell ?_ ?_ _;rotate_left;next => first|(simp;done)|(simp;omega)|omega))
 have hnr := Asd.mk on.rep
 clear hb on ln nn
 go_wp2
 go_loopw [3, 31] (fun s3 s31 wr => ∃ i : Nat, i ≤ N.length ∧ s31 = .int .i64 i ∧ BestV wr w.heap.size s3 (bestTo wt N i) ∧ Below w2.heap.size w2 wr) (fun _ s31 _ => N.length - (intOf s31).toNat)
 case atStart => exact ⟨0, by omega, rfl, ⟨Lie.nil _ _ _ _, .inl ⟨rfl, rfl⟩⟩, Below.refl _ _⟩
 case round =>
  obtain ⟨i, hi, rfl, hB, hbr⟩ := hrel
  have hbw := Asd.mk (below_st hb2.out hbr)
  by_cases hlt : i < N.length
  ·obtain ⟨al, c', he, hcell⟩ := str_elem (hnr.out.below hbr) hlt
   cases he
   have hst1 := bestTo_succ (wt := wt) hlt
   have hbe := hbl.out i (by omega)
   obtain ⟨best, hbest⟩ : ∃ best, bestTo wt N i = best := ⟨_, rfl⟩
   rw [hbest] at hst1 hB hbe
   obtain ⟨v, hv⟩ : ∃ v, N[i] = v := ⟨_, rfl⟩
   have hvN := Asd.mk (show v ∈ N from hv ▸ List.getElem_mem hlt)
   rw [hv] at hcell hst1
   replace hst1 := Asd.mk hst1
   replace hB := Asd.mk hB
   replace hbr := Asd.mk hbr
   clear hbest hv
   obtain ⟨V, eV⟩ : ∃ V, V = wr := ⟨_, rfl⟩
   rw [← eV] at hcell hB hbr hbw ⊢
   clear eV
   have hM0 := Asd.mk (MapAt.new V)
   go_wp2_with (refine wpMapIns rfl rfl Tryz.underlying143 Tryz.underlying9 rfl hM0.out rfl rfl ?_)
   intro w4 hM4 hO4
   have hb4 := Asd.mk (hO4.upon (show Below V.heap.size V _ from by repeat first|with_reducible (first|exact Below.refl _ _|refine below_al ?_ _|refine below_dr ?_ _|refine below_d1 ?_)|(with_reducible refine Below.setCell ?_ ?_ _;rotate_left;next => first|(simp;done)|(simp;omega)|omega)) (Nat.le_refl _) (Nat.le_refl _))
   have hIM4 := Asd.mk (show IntM w4 V.heap.size (startD v) from ⟨_, hM4, IntC.start v⟩)
   have hDI0 := Asd.mk (DI.start (wt := wt) hvN.out)
   clear hM4 hO4 hM0
   have hmu0 := Asd.mk (show muD (startD v) N ≤ muD (startD v) N from Nat.le_refl _)
   have hbV : w.heap.size ≤ V.heap.size := hbw.out.size
   have zV4 : V.heap.size < w4.heap.size := by have := hIM4.out.choose_spec.1.lt; exact this
   go_wp2
   go_loopg [7] (muD (startD v) N + 2) (fun kx s7 wx => ∃ (mv : Bool) (f : ByteArray → Option Nat), s7 = .bool mv ∧ IntM wx V.heap.size f ∧ DI wt N v f ∧ (mv = false → FixD wt N v f) ∧ muD f N + (if mv then 1 else 0) + 1 ≤ kx ∧ Below V.heap.size V wx)
   case atStart => exact ⟨true, startD v, rfl, hIM4.out, hDI0.out, (fun h => by cases h), by simp, hb4.out⟩
   case round =>
    obtain ⟨mv, f, rfl, hM, hD, hfx, hkx, hbx⟩ := hrel
    have hbxw := Asd.mk (below_st hbw.out hbx)
    have zr : V.heap.size < wr.heap.size := hM.choose_spec.1.lt
    replace hM := Asd.mk hM
    replace hD := Asd.mk hD
    replace hbx := Asd.mk hbx
    cases mv with
    | true =>
     clear hfx
     go_wp2_with fail
     refine (names_calls W roots R e F _ (hE.out.later (by repeat first|with_reducible (first|exact Below.refl _ _|exact hbxw.out|refine below_al ?_ _|refine below_dr ?_ _|refine below_d1 ?_)|(with_reducible refine Below.setCell ?_ ?_ _;rotate_left;next => first|(simp;done)|(simp;omega)|omega))) (by omega)).mono ?_
     rw [hNe.out]
     rintro e' w5 ⟨v5, rfl, ⟨F5, o5, n5, l5⟩, hb⟩
     obtain ⟨A5, d5, rfl, _, _⟩ := own_slice o5
     have hb5 := Asd.mk (show Below wr.heap.size wr w5 from by repeat first|with_reducible (first|exact Below.refl _ _|exact hb|refine below_al ?_ _|refine below_dr ?_ _|refine below_d1 ?_)|(with_reducible refine Below.setCell ?_ ?_ _;rotate_left;next => first|(simp;done)|(simp;omega)|omega))
     have hbV5 := Asd.mk (below_st hbx.out hb5.out)
     have hM5 := Asd.mk (show IntM w5 V.heap.size f from ⟨_, hM.out.choose_spec.1.move (hb5.out.block _ zr), hM.out.choose_spec.2⟩)
     have hn5 := Asd.mk (fun (Y : World) (g : MFr [V.heap.size] w5 Y) => (g.own o5 (fun b hb h => by have := l5 b hb; simp at h this; omega)).rep)
     clear hb o5 n5 l5
     go_wp2
     go_loopw [7, 42] (fun s7 s42 wy => ∃ (mv : Bool) (f2 : ByteArray → Option Nat) (j : Nat), s7 = .bool mv ∧ s42 = .int .i64 j ∧ j ≤ N.length ∧ IntM wy V.heap.size f2 ∧ DI wt N v f2 ∧ (mv = false → f2 = f ∧ FixTo wt N v f j) ∧ (mv = true → muD f2 N < muD f N) ∧ MFr [V.heap.size] w5 wy) (fun _ s42 _ => N.length - (intOf s42).toNat)
     case atStart => exact ⟨false, f, 0, rfl, rfl, by omega, hM5.out, hD.out, (fun _ => ⟨rfl, fun i h h2 => by omega⟩), (fun h => by cases h), MFr.refl _ _⟩
     case round =>
      obtain ⟨mv, f2, j, rfl, rfl, hj, hM2, hD2, hmv0, hmv1, hmy⟩ := hrel
      have hby := Asd.mk (MFr.upon hmy hbV5.out (Nat.le_refl _) (fun b hb => by simp at hb; omega))
      have hbyw := Asd.mk (below_st hbw.out hby.out)
      have zy : V.heap.size < wr.heap.size := hM2.choose_spec.1.lt
      replace hM2 := Asd.mk hM2
      replace hD2 := Asd.mk hD2
      replace hmv0 := Asd.mk hmv0
      replace hmv1 := Asd.mk hmv1
      by_cases hlt2 : j < N.length
      ·obtain ⟨a5, c', he, hcell⟩ := str_elem (hn5.out wr hmy) hlt2
       cases he
       have hFT := fun h => FixTo.succ (wt := wt) (v := v) (f := f) hlt2 h
       obtain ⟨u, hu⟩ : ∃ u, N[j] = u := ⟨_, rfl⟩
       have huN := Asd.mk (show u ∈ N from hu ▸ List.getElem_mem hlt2)
       rw [hu] at hcell hFT
       replace hFT := Asd.mk hFT
       replace hmy := Asd.mk hmy
       clear hu
       by_cases huv : ltS v u = true
       ·have hq1 : Op.bytesLess v.toList u.toList = true := huv
        have hq2 : Op.bytesLess u.toList v.toList = false := ltS_asymm huv
        have hq3 : (u.toList == v.toList) = false := by rw [Bool.eq_false_iff]; exact fun h => by rw [(ba_eq _ _).1 h, ltS_irr] at huv; cases huv
        replace huv := Asd.mk huv
        go_wp2_with fail
        refine (waits_calls W roots R e F u _ (hE.out.later (by repeat first|with_reducible (first|exact Below.refl _ _|exact hbyw.out|refine below_al ?_ _|refine below_dr ?_ _|refine below_d1 ?_)|(with_reducible refine Below.setCell ?_ ?_ _;rotate_left;next => first|(simp;done)|(simp;omega)|omega))) hw hI.out).mono ?_
        rw [hwt.out]
        rintro e' w6 ⟨v6, rfl, ⟨F6, o6, _, l6⟩, hb⟩
        obtain ⟨A6, d6, rfl, _, _⟩ := own_slice o6
        have hb6 := Asd.mk (show Below wr.heap.size wr w6 from by repeat first|with_reducible (first|exact Below.refl _ _|exact hb|refine below_al ?_ _|refine below_dr ?_ _|refine below_d1 ?_)|(with_reducible refine Below.setCell ?_ ?_ _;rotate_left;next => first|(simp;done)|(simp;omega)|omega))
        have hM6 := Asd.mk (show IntM w6 V.heap.size f2 from ⟨_, hM2.out.choose_spec.1.move (hb6.out.block _ zy), hM2.out.choose_spec.2⟩)
        have hm6 := Asd.mk (hmy.out.trans (MFr.of_below hb6.out))
        have hr6 := Asd.mk (fun (Y : World) (g : MFr [V.heap.size] w6 Y) => (g.own o6 (fun b hb h => by have := l6 b hb; simp at h this; omega)).rep)
        have hwq := hwl.out u
        have hset := Asd.mk (fun (f3 : ByteArray → Option Nat) (h : DI wt N v f3) (x : ByteArray) (d : Nat) (hx : x ∈ wt u) (hd : f3 x = some d) (hless : ∀ o, f3 u = some o → d + 1 < o) => h.set hNl huN.out huv.out hx hd hless)
        obtain ⟨l, hl⟩ : ∃ l, wt u = l := ⟨_, rfl⟩
        rw [hl] at hr6 hwq hset hFT ⊢
        clear hb o6 l6 hl
        go_wp2
        go_loopw [7, 53] (fun s7 s53 wz => ∃ (mv : Bool) (f3 : ByteArray → Option Nat) (kk : Nat), s7 = .bool mv ∧ s53 = .int .i64 kk ∧ kk ≤ l.length ∧ IntM wz V.heap.size f3 ∧ DI wt N v f3 ∧ (mv = false → f3 = f ∧ FixTo wt N v f j ∧ FixK l f u kk) ∧ (mv = true → muD f3 N < muD f N) ∧ MFr [V.heap.size] w6 wz) (fun _ s53 _ => l.length - (intOf s53).toNat)
        case atStart => exact ⟨mv, f2, 0, rfl, rfl, by omega, hM6.out, hD2.out, (fun h => ⟨(hmv0.out h).1, (hmv0.out h).2, fun i h h2 => by omega⟩), hmv1.out, MFr.refl _ _⟩
        case round =>
         obtain ⟨mv3, f3, kk, rfl, rfl, hkk, hM3, hD3, hmw0, hmw1, hmz⟩ := hrel
         by_cases hlt3 : kk < l.length
         ·obtain ⟨a6, c', he, hcell3⟩ := str_elem (hr6.out wr hmz) hlt3
          cases he
          have hFK := fun h => FixK.succ (f := f) (u := u) hlt3 h
          have hxl := Asd.mk (List.getElem_mem hlt3)
          obtain ⟨x, hx⟩ : ∃ x, l[kk] = x := ⟨_, rfl⟩
          rw [hx] at hcell3 hFK hxl
          obtain ⟨C3, hC3, hI3⟩ := hM3
          have hlx := hI3.look hC3 x
          have hlu := hI3.look hC3 u
          have hM3 := Asd.mk (show IntM wr V.heap.size f3 from ⟨C3, hC3, hI3⟩)
          replace hC3 := Asd.mk hC3
          replace hI3 := Asd.mk hI3
          replace hD3 := Asd.mk hD3
          replace hFK := Asd.mk hFK
          replace hmw0 := Asd.mk hmw0
          replace hmw1 := Asd.mk hmw1
          replace hmz := Asd.mk hmz
          clear hx
          cases hfx : f3 x with
          | none =>
           rw [hfx] at hlx
           replace hfx := Asd.mk hfx
           clear hlu
           go_wp2
           go_roundw
           case rel => exact ⟨mv3, f3, kk + 1, rfl, by go_num, by omega, hM3.out, hD3.out, (fun h => by obtain ⟨h1, h2, h3⟩ := hmw0.out h; exact ⟨h1, h2, hFK.out h3 (fun d hd => by rw [← h1, hfx.out] at hd; cases hd)⟩), hmw1.out, hmz.out⟩
           case measure => simp [intOf]; omega
          | some d =>
           rw [hfx] at hlx
           have hdN := Asd.mk (show d < 61 by have h1 := hD3.out.small x d hfx; have h2 := cntD_le f3 N; omega)
           have hd61 := hdN.out
           replace hfx := Asd.mk hfx
           have hup := Asd.mk (fun hless => hset.out f3 hD3.out x d hxl.out hfx.out hless)
           cases hfu : f3 u with
           | none =>
            rw [hfu] at hlu
            have hup2 := Asd.mk (hup.out (fun o ho => by rw [hfu] at ho; cases ho))
            replace hfu := Asd.mk hfu
            go_wp2_with (at_mapUpdate; refine wpMapSet rfl rfl Tryz.underlying143 Tryz.underlying9 rfl hC3.out rfl rfl ?_)
            intro w7 hM7 hO7
            have hIM7 := Asd.mk (show IntM w7 V.heap.size (updD f3 u (d + 1)) from ⟨_, hM7, hI3.out.put u (by show _ = Value.int .i64 ((d + 1 : Nat) : Int); go_num)⟩)
            have hm7 := Asd.mk (hmz.out.trans hO7.mfr)
            have hmu7 := Asd.mk (show muD (updD f3 u (d + 1)) N < muD f N by
             cases mv3 with
             | false => have h1 := (hmw0.out rfl).1; rw [← h1]; exact hup2.out.2
             | true => exact Nat.lt_trans hup2.out.2 (hmw1.out rfl))
            clear hM7 hO7
            go_wp2
            go_roundw
            case rel => exact ⟨true, updD f3 u (d + 1), kk + 1, rfl, by go_num, by omega, hIM7.out, hup2.out.1, (fun h => by cases h), (fun _ => hmu7.out), hm7.out⟩
            case measure => simp [intOf]; omega
           | some o =>
            rw [hfu] at hlu
            have ho61 : o < 61 := by have h1 := hD3.out.small u o hfu; have h2 := cntD_le f3 N; omega
            by_cases hdo : d + 1 < o
            ·have hup2 := Asd.mk (hup.out (fun o2 ho => by rw [hfu] at ho; cases ho; exact hdo))
             replace hfu := Asd.mk hfu
             go_wp2_with (at_mapUpdate; refine wpMapSet rfl rfl Tryz.underlying143 Tryz.underlying9 rfl hC3.out rfl rfl ?_)
             intro w7 hM7 hO7
             have hIM7 := Asd.mk (show IntM w7 V.heap.size (updD f3 u (d + 1)) from ⟨_, hM7, hI3.out.put u (by show _ = Value.int .i64 ((d + 1 : Nat) : Int); go_num)⟩)
             have hm7 := Asd.mk (hmz.out.trans hO7.mfr)
             have hmu7 := Asd.mk (show muD (updD f3 u (d + 1)) N < muD f N by
              cases mv3 with
              | false => have h1 := (hmw0.out rfl).1; rw [← h1]; exact hup2.out.2
              | true => exact Nat.lt_trans hup2.out.2 (hmw1.out rfl))
             clear hM7 hO7
             go_wp2
             go_roundw
             case rel => exact ⟨true, updD f3 u (d + 1), kk + 1, rfl, by go_num, by omega, hIM7.out, hup2.out.1, (fun h => by cases h), (fun _ => hmu7.out), hm7.out⟩
             case measure => simp [intOf]; omega
            ·have hfu2 := Asd.mk hfu
             replace hfu := Asd.mk hfu
             go_wp2
             go_roundw
             case rel => exact ⟨mv3, f3, kk + 1, rfl, by go_num, by omega, hM3.out, hD3.out, (fun h => by obtain ⟨h1, h2, h3⟩ := hmw0.out h; exact ⟨h1, h2, hFK.out h3 (fun d2 hd => by rw [← h1, hfx.out] at hd; cases hd; exact ⟨o, h1 ▸ hfu.out, by omega⟩)⟩), hmw1.out, hmz.out⟩
             case measure => simp [intOf]; omega
         ·obtain rfl : kk = l.length := by omega
          have hm9 := Asd.mk (hm6.out.trans hmz)
          replace hM3 := Asd.mk hM3
          replace hD3 := Asd.mk hD3
          replace hmw0 := Asd.mk hmw0
          replace hmw1 := Asd.mk hmw1
          clear hmz
          go_wp2
          go_roundw
          case rel => exact ⟨mv3, f3, j + 1, rfl, by go_num, by omega, hM3.out, hD3.out, (fun h => by obtain ⟨h1, h2, h3⟩ := hmw0.out h; exact ⟨h1, hFT.out h2 (fun _ => h3)⟩), hmw1.out, hm9.out⟩
          case measure => simp [intOf]; omega
       ·have hq1 : Op.bytesLess v.toList u.toList = false := Bool.eq_false_iff.2 huv
        replace huv := Asd.mk huv
        have hrel9 := Asd.mk (show mv = false → f2 = f ∧ FixTo wt N v f (j + 1) from fun h => ⟨(hmv0.out h).1, hFT.out (hmv0.out h).2 (fun h2 => absurd h2 huv.out)⟩)
        have hq4 : (Op.bytesLess u.toList v.toList || u.toList == v.toList) = true := by
         cases hq : Op.bytesLess u.toList v.toList with
         | true => rfl
         | false => rw [Bool.false_or]; exact (ba_eq _ _).2 (ltS_tri hq hq1)
        go_wp2
        go_roundw
        case rel => exact ⟨mv, f2, j + 1, rfl, by go_num, by omega, hM2.out, hD2.out, hrel9.out, hmv1.out, hmy.out⟩
        case measure => simp [intOf]; omega
      ·obtain rfl : j = N.length := by omega
       clear hmy
       go_wp2
       go_roundg (muD f2 N + (if mv then 1 else 0) + 1)
       case measure =>
        cases mv with
        | false => rw [(hmv0.out rfl).1]; simp at hkx ⊢; omega
        | true => have := hmv1.out rfl; simp at hkx ⊢; omega
       case rel => exact ⟨mv, f2, rfl, hM2.out, hD2.out, (fun h => by obtain ⟨h1, h2⟩ := hmv0.out h; rw [h1]; exact h2.end), Nat.le_refl _, hby.out⟩
    | false =>
     have hfix := Asd.mk (hfx rfl)
     clear hfx hkx
     have hback := Asd.mk (fun (n : Nat) (h : NearI (wt v) f (wt v).length n) => NearI.end hD.out hfix.out hN.out hvN.out h)
     have hnxt := Asd.mk (fun (x : ByteArray) (hx : x ∈ N) (n : Nat) => hD.out.next hfix.out hN.out hx n)
     go_wp2_with fail
     refine (waits_calls W roots R e F v _ (hE.out.later (by repeat first|with_reducible (first|exact Below.refl _ _|exact hbxw.out|refine below_al ?_ _|refine below_dr ?_ _|refine below_d1 ?_)|(with_reducible refine Below.setCell ?_ ?_ _;rotate_left;next => first|(simp;done)|(simp;omega)|omega))) hw hI.out).mono ?_
     rw [hwt.out]
     rintro e' w6 ⟨v6, rfl, ⟨F6, o6, _, _⟩, hb⟩
     obtain ⟨A6, d6, rfl, _, _⟩ := own_slice o6
     have hr6 := Asd.mk o6.rep
     have hb6 := Asd.mk (show Below wr.heap.size wr w6 from by repeat first|with_reducible (first|exact Below.refl _ _|exact hb|refine below_al ?_ _|refine below_dr ?_ _|refine below_d1 ?_)|(with_reducible refine Below.setCell ?_ ?_ _;rotate_left;next => first|(simp;done)|(simp;omega)|omega))
     have hbV6 := Asd.mk (below_st hbx.out hb6.out)
     have hbw6 := Asd.mk (below_st hbxw.out hb6.out)
     have hb26 := Asd.mk (below_st hbr.out hbV6.out)
     have hB6 := Asd.mk (show BestV w6 w.heap.size _ best from ⟨hB.out.1.below hbV6.out, hB.out.2⟩)
     obtain ⟨C, hC6, hIC⟩ : ∃ C, MapAt w6 V.heap.size C ∧ IntC C f := ⟨_, hM.out.choose_spec.1.move (hb6.out.block _ zr), hM.out.choose_spec.2⟩
     have hlk := fun x => hIC.look hC6 x
     have hwv := hwl.out v
     obtain ⟨l, hl⟩ : ∃ l, wt v = l := ⟨_, rfl⟩
     rw [hl] at hr6 hwv hback ⊢
     have hsm := Asd.mk (show ∀ x d, f x = some d → d < 61 from fun x d h => by have h1 := hD.out.small x d h; have h2 := cntD_le f N; omega)
     have zM6 : V.heap.size < w6.heap.size := hC6.lt
     replace hC6 := Asd.mk hC6
     replace hlk := Asd.mk hlk
     have hIC2 := Asd.mk hIC
     clear hb o6 hl hIC
     go_wp2
     go_loopw [16, 88] (fun s16 s88 wz => wz = w6 ∧ ∃ n kk : Nat, s16 = .int .i64 n ∧ s88 = .int .i64 kk ∧ kk ≤ l.length ∧ n ≤ 61 ∧ NearI l f kk n) (fun _ s88 _ => l.length - (intOf s88).toNat)
     case atStart => exact ⟨rfl, 0, 0, rfl, rfl, by omega, by omega, NearI.start _ _⟩
     case round =>
      obtain ⟨hwz, n, kk, rfl, rfl, hkk, hn61, hni⟩ := hrel
      subst hwz
      by_cases hlt3 : kk < l.length
      ·obtain ⟨a6, c', he, hcell3⟩ := str_elem hr6.out hlt3
       cases he
       have hskip := fun h => hni.skip hlt3 h
       have htake := fun d h h2 => hni.take (d := d) hlt3 h h2
       obtain ⟨x, hx⟩ : ∃ x, l[kk] = x := ⟨_, rfl⟩
       rw [hx] at hcell3 hskip htake
       have hlx := hlk.out x
       replace hskip := Asd.mk hskip
       replace htake := Asd.mk htake
       clear hx hni
       cases hfx : f x with
       | none =>
        rw [hfx] at hlx
        have hs9 := Asd.mk (hskip.out (.inl hfx))
        clear hfx
        go_wp2
        go_roundw
        case rel => exact ⟨by first | rfl | trivial, n, kk + 1, rfl, by go_num, by omega, hn61, hs9.out⟩
        case measure => simp [intOf]; omega
       | some d =>
        rw [hfx] at hlx
        have hd61 := hsm.out x d hfx
        have hfx2 := Asd.mk hfx
        clear hfx
        by_cases h0 : n = 0
        ·subst h0
         have hs9 := Asd.mk (htake.out d hfx2.out (.inl rfl))
         go_wp2
         go_roundw
         case rel => exact ⟨by first | rfl | trivial, d + 1, kk + 1, by go_num, by go_num, by omega, by omega, hs9.out⟩
         case measure => simp [intOf]; omega
        ·have hne0 : ((n : Int) == 0) = false := by rw [beq_eq_false_iff_ne]; omega
         by_cases hdn : d + 1 < n
         ·have hs9 := Asd.mk (htake.out d hfx2.out (.inr hdn))
          go_wp2
          go_roundw
          case rel => exact ⟨by first | rfl | trivial, d + 1, kk + 1, by go_num, by go_num, by omega, by omega, hs9.out⟩
          case measure => simp [intOf]; omega
         ·have hs9 := Asd.mk (hskip.out (.inr ⟨h0, d, hfx2.out, by omega⟩))
          go_wp2
          go_roundw
          case rel => exact ⟨by first | rfl | trivial, n, kk + 1, rfl, by go_num, by omega, hn61, hs9.out⟩
          case measure => simp [intOf]; omega
      ·obtain rfl : kk = l.length := by omega
       have hn := Asd.mk (hback.out n hni)
       have hst2 := hst1.out
       unfold circStep at hst2
       rw [hn.out] at hst2
       obtain ⟨bb, hbb⟩ : ∃ bb, decide (n = 0 ∨ (0 < best.length ∧ best.length ≤ n)) = bb := ⟨_, rfl⟩
       replace hbb := Asd.mk hbb
       replace hst2 := Asd.mk hst2
       clear hni
       obtain ⟨Z, eZ⟩ : ∃ Z, Z = wr := ⟨_, rfl⟩
       rw [← eZ] at hr6 hbV6 hbw6 hb26 hB6 hlk zM6 hC6 ⊢
       clear eZ
       go_upto_region 32 with (fail)
       go_cut [123] (fun s123 wx => s123 = .bool bb ∧ wx = Z)
       case first =>
        obtain ⟨_, hsh⟩ := hB6.out
        rcases hsh with ⟨hb0, rfl⟩ | ⟨hb0, ab, cb, rfl⟩
        ·by_cases h0 : n = 0
         ·have hb9 := Asd.mk (show true = bb by rw [← hbb.out, h0]; rfl)
          subst h0
          go_wp2
          go_meet
          exact ⟨by rw [← hb9.out], rfl⟩
         ·have hne0 : ((n : Int) == 0) = false := by rw [beq_eq_false_iff_ne]; omega
          have hb9 := Asd.mk (show false = bb by rw [← hbb.out, hb0]; simp [h0])
          replace hb0 := Asd.mk hb0
          go_wp2
          go_meet
          exact ⟨by rw [← hb9.out], rfl⟩
        ·have hbp : 0 < best.length := List.length_pos_iff.2 hb0
         by_cases h0 : n = 0
         ·have hb9 := Asd.mk (show true = bb by rw [← hbb.out, h0]; rfl)
          subst h0
          replace hb0 := Asd.mk hb0
          go_wp2
          go_meet
          exact ⟨by rw [← hb9.out], rfl⟩
         ·have hne0 : ((n : Int) == 0) = false := by rw [beq_eq_false_iff_ne]; omega
          by_cases h1 : best.length ≤ n
          ·have hb9 := Asd.mk (show true = bb by rw [← hbb.out]; exact (decide_eq_true (.inr ⟨hbp, h1⟩)).symm)
           replace hb0 := Asd.mk hb0
           go_wp2
           go_meet
           exact ⟨by rw [← hb9.out], rfl⟩
          ·have hb9 := Asd.mk (show false = bb by rw [← hbb.out]; exact (decide_eq_false (by omega)).symm)
           replace hb0 := Asd.mk hb0
           go_wp2
           go_meet
           exact ⟨by rw [← hb9.out], rfl⟩
       case rest =>
        obtain ⟨rfl, hwc⟩ := hcut
        subst hwc
        cases bb with
        | true =>
         have e9 := Asd.mk (show best = bestTo wt N (i + 1) by rw [hst2.out, if_pos (of_decide_eq_true hbb.out)])
         have hB9 := hB6.out
         rw [e9.out] at hB9
         replace hB9 := Asd.mk hB9
         go_wp2
         go_roundw
         case rel => exact ⟨i + 1, by omega, by go_num, hB9.out, hb26.out⟩
         case measure => simp [intOf]; omega
        | false =>
         have hnc := of_decide_eq_false hbb.out
         obtain ⟨T, hT⟩ : ∃ T, bestTo wt N (i + 1) = T := ⟨_, rfl⟩
         have hst3 := hst2.out
         rw [if_neg hnc, hT] at hst3
         obtain ⟨m0, hm0⟩ : ∃ m0, n = m0 + 1 := ⟨n - 1, by omega⟩
         have hat := Asd.mk (show WayI wt v N.length n T [] v from ⟨by rw [hn.out]; rfl, by rw [hn.out]; omega, by rw [hst3, hn.out]; rfl⟩)
         replace hT := Asd.mk hT
         have hnv := hn.out.trans hm0
         replace hm0 := Asd.mk hm0
         replace hnv := Asd.mk hnv
         obtain ⟨Z, eZ⟩ : ∃ Z, Z = wc := ⟨_, rfl⟩
         rw [← eZ] at hr6 hbV6 hbw6 hb26 hB6 hlk zM6 hC6 ⊢
         clear eZ hst3 hnc hst2 hbb hst1 hn hback
         go_wp2
         go_loopw [21, 22, 23] (fun s21 s22 s23 wy => ∃ (pre : List ByteArray) (u : ByteArray) (m : Nat), WayI wt v N.length n T pre u ∧ farU wt v N.length u = m + 1 ∧ s22 = .string u ∧ s23 = .int .i64 ((m + 1 : Nat) : Int) ∧ Lie Z.heap.size wy (strsT 9 (pre ++ [u])) s21 ∧ Below Z.heap.size Z wy) (fun _ _ s23 _ => (intOf s23).toNat)
         case atStart => exact ⟨[], v, m0, hat.out, hnv.out, rfl, by rw [hm0.out], Lie.lit1 _ _, by repeat first|with_reducible (first|exact Below.refl _ _|refine below_al ?_ _|refine below_dr ?_ _|refine below_d1 ?_)|(with_reducible refine Below.setCell ?_ ?_ _;rotate_left;next => first|(simp;done)|(simp;omega)|omega)⟩
         case round =>
          obtain ⟨pre, u, m, hway, hfu, rfl, rfl, hLc, hby⟩ := hrel
          have hbyw := Asd.mk (below_st hbw6.out hby)
          have hby2 := Asd.mk (below_st hb26.out hby)
          have hlc : (pre ++ [u]).length = pre.length + 1 := by simp
          have hp60 : pre.length + 1 ≤ 61 := by have := hway.far; omega
          obtain ⟨al, cc, rfl, _⟩ := str_elem hLc.rep (i := pre.length) (by rw [hlc]; omega)
          rw [hlc] at hLc ⊢
          obtain ⟨ln, hln⟩ : ∃ ln, pre.length + 1 = ln := ⟨_, rfl⟩
          rw [hln] at hLc hlc hp60 ⊢
          by_cases hm : m = 0
          ·subst hm
           have hd := Asd.mk (hway.done hfu)
           have hB9 := Asd.mk (show BestV wr w.heap.size (.slice (some al) ln cc) (bestTo wt N (i + 1)) from by
            rw [hT.out, ← hd.out]
            exact ⟨hLc.mono hbw6.out.size, .inr ⟨by simp, al, cc, by rw [hlc]⟩⟩)
           clear hLc hway hby hlc hln hfu
           go_wp2
           go_roundw
           case rel => exact ⟨i + 1, by omega, by go_num, hB9.out, hby2.out⟩
           case measure => simp [intOf]; omega
          ·obtain ⟨m', rfl⟩ : ∃ m', m = m' + 1 := ⟨m - 1, by omega⟩
           obtain ⟨xn, hfi, hway2⟩ := hway.next hfu
           have hxn := Asd.mk (show farU wt v N.length xn = m' + 1 by have h1 := hway2.far; have h2 := hway.far; rw [List.length_append] at h1; simp at h1; omega)
           have hm61 : m' + 2 ≤ 61 := by have := hway.far; omega
           obtain ⟨lf, hlf⟩ : ∃ lf : Nat, m' + 1 + 1 = lf := ⟨_, rfl⟩
           obtain ⟨lm, hlm⟩ : ∃ lm : Nat, m' + 1 = lm := ⟨_, rfl⟩
           have hl1 : IntKind.i64.wrap ((lf : Int) - 1) = (lm : Int) := by rw [IntKind.wrap_i64]; omega
           rw [hlf]
           have hl2 : (1 : Int) < (lf : Int) := by omega
           have hC7 : MapAt wr V.heap.size C := hC6.out.move (hby.block _ zM6)
           have hlm2 := Asd.mk hlm
           have hlf2 := Asd.mk hlf
           replace hfi := Asd.mk hfi
           replace hway2 := Asd.mk hway2
           replace hLc := Asd.mk hLc
           replace hby := Asd.mk hby
           replace hlc := Asd.mk hlc
           replace hln := Asd.mk hln
           clear hlm hlf hway hfu
           go_wp2_with fail
           refine (waits_calls W roots R e F u _ (hE.out.later (by repeat first|with_reducible (first|exact Below.refl _ _|exact hbyw.out|refine below_al ?_ _|refine below_dr ?_ _|refine below_d1 ?_)|(with_reducible refine Below.setCell ?_ ?_ _;rotate_left;next => first|(simp;done)|(simp;omega)|omega))) hw hI.out).mono ?_
           rw [hwt.out]
           rintro e' w7 ⟨v7, rfl, ⟨F7, o7, _, _⟩, hb⟩
           obtain ⟨A7, d7, rfl, _, _⟩ := own_slice o7
           have hr7 := Asd.mk o7.rep
           have hb7 := Asd.mk (show Below wr.heap.size wr w7 from by repeat first|with_reducible (first|exact Below.refl _ _|exact hb|refine below_al ?_ _|refine below_dr ?_ _|refine below_d1 ?_)|(with_reducible refine Below.setCell ?_ ?_ _;rotate_left;next => first|(simp;done)|(simp;omega)|omega))
           have hbZ7 := Asd.mk (below_st hby.out hb7.out)
           have hLc7 := Asd.mk (hLc.out.below hb7.out)
           have hlk7 := Asd.mk (fun x => hIC2.out.look (hC7.move (hb7.out.block _ hC7.lt)) x)
           have hwq := hwl.out u
           have hNu := Asd.mk (hN.out u)
           obtain ⟨l2, hl2e⟩ : ∃ l2, wt u = l2 := ⟨_, rfl⟩
           rw [hl2e] at hr7 hwq hfi hNu ⊢
           replace hC7 := Asd.mk hC7
           clear hb o7 hl2e
           go_wp2
           go_loopw [21, 22, 136] (fun s21 s22 s136 wz => wz = w7 ∧ ∃ kk : Nat, kk ≤ l2.length ∧ s136 = .int .i64 kk ∧ s21 = .slice (some al) ln cc ∧ s22 = .string u ∧ (∀ (i2 : Nat) (h2 : i2 < l2.length), i2 < kk → (ltS v l2[i2] && decide (farU wt v N.length l2[i2] = m' + 1)) = false)) (fun _ _ s136 _ => l2.length - (intOf s136).toNat)
           case atStart => exact ⟨rfl, 0, by omega, rfl, rfl, rfl, fun i2 h2 h3 => by omega⟩
           case round =>
            obtain ⟨hwz, kk, hkk, rfl, rfl, rfl, hno⟩ := hrel
            subst hwz
            by_cases hlt3 : kk < l2.length
            ·obtain ⟨ay, c'', he, hcell3⟩ := str_elem hr7.out hlt3
             cases he
             have hnx := Asd.mk (show (ltS v l2[kk] && decide (farU wt v N.length l2[kk] = m' + 1)) = true → l2[kk] = xn from fun hp => find_first hfi.out hlt3 hno hp)
             have hno2 : (ltS v l2[kk] && decide (farU wt v N.length l2[kk] = m' + 1)) = false → ∀ (i2 : Nat) (h2 : i2 < l2.length), i2 < kk + 1 → (ltS v l2[i2] && decide (farU wt v N.length l2[i2] = m' + 1)) = false := fun hp i2 h2 h3 => by
              by_cases e : i2 = kk
              ·subst e; exact hp
              ·exact hno i2 h2 (by omega)
             have hyn := hnxt.out l2[kk] (hNu.out _ (List.getElem_mem hlt3)) m'
             obtain ⟨y, hy⟩ : ∃ y, l2[kk] = y := ⟨_, rfl⟩
             rw [hy] at hcell3 hnx hno2 hyn
             have hly := hlk7.out y
             replace hno2 := Asd.mk hno2
             clear hno hy
             cases hfy : f y with
             | none =>
              rw [hfy] at hly
              have hs9 := Asd.mk (hno2.out (by rw [Bool.eq_false_iff]; exact fun h => by have := (hyn.2 h).2; rw [hfy] at this; cases this))
              clear hfy hyn
              go_wp2
              go_roundw
              case rel => exact ⟨by first | rfl | trivial, kk + 1, by omega, by go_num, rfl, rfl, hs9.out⟩
              case measure => simp [intOf]; omega
             | some d =>
              rw [hfy] at hly
              by_cases hyv : y = v
              ·have hs9 := Asd.mk (hno2.out (by rw [Bool.eq_false_iff]; exact fun h => (hyn.2 h).1 hyv))
               have hq : (y.toList == v.toList) = true := (ba_eq _ _).2 hyv
               replace hyv := Asd.mk hyv
               clear hfy hyn
               go_wp2
               go_roundw
               case rel => exact ⟨by first | rfl | trivial, kk + 1, by omega, by go_num, rfl, rfl, hs9.out⟩
               case measure => simp [intOf]; omega
              ·have hq : (y.toList == v.toList) = false := by rw [Bool.eq_false_iff]; exact fun h => hyv ((ba_eq _ _).1 h)
               by_cases hdl : d = lm
               ·have hyx := Asd.mk (hnx.out (hyn.1 ⟨hyv, by rw [hfy, hdl, ← hlm2.out]⟩))
                subst hdl
                replace hyv := Asd.mk hyv
                clear hfy hyn
                have hlp2 : (pre ++ [u]).length ≤ 1000000 := by rw [hlc.out]; omega
                obtain ⟨Q, eQ⟩ : ∃ Q, Q = wr := ⟨_, rfl⟩
                rw [← eQ] at hbZ7 hLc7 hr7 hcell3 hly ⊢
                clear eQ
                go_wp2_with (at_builtin; refine appStr rfl rfl rfl (lo := Z.heap.size) (wr := Q) hbZ7.out.size (hlc.out ▸ hLc7.out) (by repeat first|with_reducible (first|exact Below.refl _ _|refine below_al ?_ _|refine below_dr ?_ _|refine below_d1 ?_)|(with_reducible refine Below.setCell ?_ ?_ _;rotate_left;next => first|(simp;done)|(simp;omega)|omega)) rfl (heap_alloc_new _ _) hlp2 ?_)
                intro v9 w9 hL9 hF9
                have hx9 := Asd.mk (show Lie Z.heap.size w9 (strsT 9 ((pre ++ [u]) ++ [xn])) v9 by rw [List.append_assoc]; exact hyx.out ▸ hL9)
                have hb10 := Asd.mk (Far.trans (below_st hbZ7.out (show Below Q.heap.size Q (Q.alloc (.cells #[.string y] 9)) from by repeat first|with_reducible (first|exact Below.refl _ _|refine below_al ?_ _|refine below_dr ?_ _|refine below_d1 ?_)|(with_reducible refine Below.setCell ?_ ?_ _;rotate_left;next => first|(simp;done)|(simp;omega)|omega))) hF9 (Nat.le_refl _) (by have := hbZ7.out.size; simp; omega))
                clear hL9 hF9
                go_wp2
                go_roundw
                case rel => exact ⟨pre ++ [u], xn, m', hway2.out, hxn.out, by rw [hyx.out], by rw [hlm2.out], hx9.out, hb10.out⟩
                case measure => have := hlm2.out; have := hlf2.out; simp [intOf, hl1]; omega
               ·have hs9 := Asd.mk (hno2.out (by rw [Bool.eq_false_iff]; exact fun h => by have := (hyn.2 h).2; rw [hfy] at this; cases this; exact hdl hlm2.out))
                have hdb : ((d : Int) == (lm : Int)) = false := by rw [beq_eq_false_iff_ne]; omega
                replace hyv := Asd.mk hyv
                clear hfy hyn
                go_wp2
                go_roundw
                case rel => exact ⟨by first | rfl | trivial, kk + 1, by omega, by go_num, rfl, rfl, hs9.out⟩
                case measure => simp [intOf]; omega
            ·obtain rfl : kk = l2.length := by omega
             exact (find_some_lt hfi.out (fun i2 h2 => hno i2 h2 h2)).elim
  ·obtain rfl : i = N.length := by omega
   rw [bestTo_end] at hB
   obtain ⟨hL9, _⟩ := hB
   obtain ⟨A9, c9, rfl, _, _⟩ := hL9.slice
   replace hL9 := Asd.mk hL9
   clear hbr
   go_wp2
   go_ret
   exact ⟨_, rfl, hL9.out.made, hbw.out⟩
theorem strs_cnt_len (t : Nat) (xs : List ByteArray) : cnt (strsT t xs) = xs.length := by
 show cnts (xs.flatMap strC) = _
 induction xs with
 | nil => rfl
 | cons x xs ih => rw [List.flatMap_cons, cnts_append, ih, List.length_cons]; simp [strC, cnts, cnt]; omega
theorem State.cnt_le (t : Nat) (x : State) : cntl (x.c t) ≤ 6 * x.bk := by
 have h1 := strs_cnt 9 x.Roots
 have h2 := runs_cnt t Run.bk x.Runs (fun r _ => by unfold Run.bk bkS bsOf; omega)
 have e : cntl (x.c t) = cnt (strsT 9 x.Roots) + (cnt (RunsT t x.Runs) + 0) := rfl
 rw [e]
 unfold State.bk Run.bs
 unfold bsOf
 omega
def circleC (W : Web) (s : State) : List ByteArray := if validS W s = true then circleL W s.Runs else []
theorem circleC_yes {W : Web} {s : State} (h : validS W s = true) : circleC W s = circleL W s.Runs := if_pos h
theorem circleC_no {W : Web} {s : State} (h : validS W s = false) : circleC W s = [] := if_neg (by rw [h]; decide)
set_option maxRecDepth 100000 in
set_option maxHeartbeats 2000000 in
theorem Circle_calls {tN tS tC t : Nat} (W : Web) (s : State) (w : World) {vs us : List Value} (hW : reps w (W.c tN tS tC) vs) (h : reps w (State.c t s) us) (hz : W.Sm) (hgl : 3 < w.heap.size) (hgt : w.cell? ⟨3, 15, none⟩ = some (.int .u8 4)) :
  Calls Tryz.prog 55 #[.agg vs.toArray, .agg us.toArray] w (MadeV w (strsT 9 (circleC W s))) := by
 obtain ⟨v0, rfl, h0⟩ := Web.ropen hW
 obtain ⟨A, c, rfl, _, _⟩ := rep_len h0
 obtain ⟨u0, u1, rfl, g0, g1⟩ := State.ropen h
 obtain ⟨D, k, rfl, _, _⟩ := rep_len g0
 obtain ⟨B, d, rfl, _, _⟩ := rep_len g1
 replace hW := Asd.mk hW
 replace h := Asd.mk h
 clear h0 g0 g1
 have HB := Asd.mk (below_al (below_al (Below.refl w.heap.size w) (.cells #[.slice A W.Nodes.length c] 34)) (.cells #[.slice D s.Roots.length k, .slice B s.Runs.length d] 38))
 go_enter Tryz.func55, Tryz.ntmps55
 go_wp2_with fail
 refine (load_calls W s _ (hW.out.below HB.out) (h.out.below HB.out) hz (by simp; omega) (cell_below HB.out hgt)).mono ?_
 rintro e w1 ⟨hb, ⟨hv, eg, F, lo, rfl, hlo, hE⟩ | ⟨hv, rfl⟩⟩
 ·have hq := Asd.mk (circleC_yes hv)
  obtain ⟨hw, _, hR⟩ := validS_reach hv
  have hb1 := Asd.mk (below_st HB.out hb)
  replace hE := Asd.mk hE
  replace hR := Asd.mk hR
  clear hb hlo hv
  go_wp2_with fail
  refine (circle_calls W s.Roots s.Runs eg F _ hE.out hw (hR.out.inv hw)).mono ?_
  rintro e w2 ⟨v, rfl, hM, hb⟩
  have hb2 := Asd.mk (below_st hb1.out hb)
  have hL := Asd.mk (hM.lie.mono hb1.out.size)
  clear hb hM
  go_wp2
  go_ret
  rw [hq.out]
  exact ⟨_, rfl, hL.out.made, hb2.out⟩
 ·have hq := Asd.mk (circleC_no hv)
  have hb1 := Asd.mk (below_st HB.out hb)
  clear hb hv
  go_wp2
  go_ret
  rw [hq.out]
  exact ⟨_, rfl, Lie.made (Lie.nil _ _ _ _), hb1.out⟩
set_option maxRecDepth 100000 in
set_option maxHeartbeats 2000000 in
theorem sCircle_calls {tN tS tC t : Nat} (W : Web) (s : State) (w : World) {vs us : List Value} (hW : reps w (W.c tN tS tC) vs) (h : reps w (State.c t s) us) (hz : W.Sm) :
  Calls Tryz.prog 54 #[.agg vs.toArray, .agg us.toArray] w (MadeV w (strsT 9 (circleC W s))) := by
 obtain ⟨v0, rfl, h0⟩ := Web.ropen hW
 obtain ⟨A, c, rfl, _, _⟩ := rep_len h0
 obtain ⟨u0, u1, rfl, g0, g1⟩ := State.ropen h
 obtain ⟨D, k, rfl, _, _⟩ := rep_len g0
 obtain ⟨B, d, rfl, _, _⟩ := rep_len g1
 replace hW := Asd.mk hW
 replace h := Asd.mk h
 clear h0 g0 g1
 have HB := Asd.mk (below_al (below_al (Below.refl w.heap.size w) (.cells #[.slice A W.Nodes.length c] 34)) (.cells #[.slice D s.Roots.length k, .slice B s.Runs.length d] 38))
 obtain ⟨g, hg⟩ : ∃ g, validS W s = g := ⟨_, rfl⟩
 go_enter Tryz.func54, Tryz.ntmps54
 go_wp2_with fail
 refine (sValidState_calls W s _ (hW.out.below HB.out) (h.out.below HB.out) hz).mono ?_
 rw [hg]
 rintro e w1 ⟨rfl, hb⟩
 obtain ⟨hcx, hfx⟩ := bcell hb
 have hzz : w.heap.size + 1 < w1.heap.size := by have := hb.size; simp at this; omega
 have hb1 := Asd.mk (below_st HB.out hb)
 have a0 : w1.cell? ⟨w.heap.size, 0, none⟩ = some (.slice A W.Nodes.length c) := by rw [hcx _ _ (by simp; omega)]; go_simp
 have b0 : w1.cell? ⟨w.heap.size + 1, 0, none⟩ = some (.slice D s.Roots.length k) := by rw [hcx _ _ (by simp)]; go_simp
 have b1 : w1.cell? ⟨w.heap.size + 1, 1, none⟩ = some (.slice B s.Runs.length d) := by rw [hcx _ _ (by simp)]; go_simp
 clear hb hcx hfx
 cases g with
 | true =>
  have hq := Asd.mk (circleC_yes hg)
  obtain ⟨hw, _, hR⟩ := validS_reach hg
  replace hR := Asd.mk hR
  clear hg
  go_wp2_with fail
  refine (l6Circle_calls W s _ (hW.out.below hb1.out) (h.out.below hb1.out) hw (hR.out.inv hw)).mono ?_
  rintro e w2 ⟨v, rfl, hM, hb⟩
  have hb2 := Asd.mk (below_st hb1.out hb)
  have hL := Asd.mk (hM.lie.mono hb1.out.size)
  clear hb hM
  go_wp2
  go_ret
  rw [hq.out]
  exact ⟨_, rfl, hL.out.made, hb2.out⟩
 | false =>
  have hq := Asd.mk (circleC_no hg)
  clear hg
  go_wp2
  go_ret
  rw [hq.out]
  exact ⟨_, rfl, Lie.made ((Lie.empty w1 _ _).mono hb1.out.size), by repeat first|with_reducible (first|exact Below.refl _ _|exact hb1.out|refine below_al ?_ _|refine below_dr ?_ _|refine below_d1 ?_)|(with_reducible refine Below.setCell ?_ ?_ _;rotate_left;next => first|(simp;done)|(simp;omega)|omega)⟩
theorem circleC_cnt (t : Nat) (W : Web) (s : State) : cnt (strsT t (circleC W s)) ≤ 60 := by
 rw [strs_cnt_len]
 cases h : validS W s with
 | true =>
  obtain ⟨hw, _, hR⟩ := validS_reach h
  rw [circleC_yes h]
  have h1 := (hR.inv hw).length hw
  have h2 := (checkWeb_ok hw).1
  unfold circleL
  rw [← bestTo_end]
  have h3 := bestTo_len (waitsL W s.Runs) (s.Runs.map Run.Name) (s.Runs.map Run.Name).length (Nat.le_refl _)
  rw [List.length_map] at h3 ⊢
  omega
 | false => rw [circleC_no h]; simp

set_option maxRecDepth 100000 in
set_option maxHeartbeats 4000000 in
theorem FnExactCircle_calls {tNode0 tStep0 tCase0 tRun1 : Nat} (x0 : Web) (x1 : State) (w : World) {vs0 : List Value} (h0 : reps w (x0.c tNode0 tStep0 tCase0) vs0) (hz0 : x0.Zm) {vs1 : List Value} (h1 : reps w (x1.c tRun1) vs1) (hz1 : x1.Zm) (hg : 3 < w.heap.size) (ht : w.cell? ⟨3, 15, none⟩ = some (.int .u8 4)) :
  Calls Tryz.prog 11 #[.agg vs0.toArray, .agg vs1.toArray] w fun e w' => e = .returned (.bool true) ∧ Below w.heap.size w w' := by
 have H0 := Asd.mk h0
 obtain ⟨u0_0, rfl, g0_0⟩ := Web.ropen h0
 obtain ⟨A0_0, C0_0, rfl, _, _⟩ := rep_len g0_0
 clear g0_0
 clear h0
 replace hz0 := Asd.mk hz0
 have H1 := Asd.mk h1
 obtain ⟨u1_0, u1_1, rfl, g1_0, g1_1⟩ := State.ropen h1
 obtain ⟨A1_0, C1_0, rfl, _, _⟩ := rep_len g1_0
 clear g1_0
 obtain ⟨A1_1, C1_1, rfl, _, _⟩ := rep_len g1_1
 clear g1_1
 clear h1
 replace hz1 := Asd.mk hz1
 by_cases q0 : ((x0.bk : Nat) : Int) ≤ 1048576
 rotate_left
 ·have e0 : szI (x0.bk) (1048576) = -1 := szI_no q0
  go_enter Tryz.func11, Tryz.ntmps11
  go_wp2_with fail
  refine (szWeb_calls x0 _ _ (H0.out.below (below_al (below_al (Below.refl _ _) _) _)) (by omega) (by omega) hz0.out).mono ?_
  rintro e w1 ⟨rfl, hb⟩
  have hF := Far.of_below hb
  have zs1 : w.heap.size + 1 + 1 ≤ w1.heap.size := by have := hF.size; (try simp at this); omega
  have c0_0 : w1.cell? ⟨w.heap.size, 0, none⟩ = some (.slice A0_0 x0.Nodes.length C0_0) := by rw [hF.cell (by first | (simp; done) | (simp; omega) | omega) (by omega)]; first | exact c0_0 | go_simp
  have c1_0 : w1.cell? ⟨w.heap.size + 1, 0, none⟩ = some (.slice A1_0 x1.Roots.length C1_0) := by rw [hF.cell (by first | (simp; done) | (simp; omega) | omega) (by omega)]; first | exact c1_0 | go_simp
  have c1_1 : w1.cell? ⟨w.heap.size + 1, 1, none⟩ = some (.slice A1_1 x1.Runs.length C1_1) := by rw [hF.cell (by first | (simp; done) | (simp; omega) | omega) (by omega)]; first | exact c1_1 | go_simp
  have z0 : w.heap.size < w1.heap.size := by omega
  have z1 : w.heap.size + 1 < w1.heap.size := by omega
  have HB_1 := Asd.mk (Far.trans3 (below_al (below_al (Below.refl _ _) _) _) hF (by omega))
  clear hF hb
  go_wp2
  go_ret
  exact ⟨rfl, HB_1.out⟩
 have e0 : szI (x0.bk) (1048576) = 1048576 - (x0.bk : Nat) := szI_yes q0
 by_cases q1 : ((x1.bk : Nat) : Int) ≤ 1048576 - (x0.bk : Nat)
 rotate_left
 ·have e1 : szI (x1.bk) (1048576 - (x0.bk : Nat)) = -1 := szI_no q1
  go_enter Tryz.func11, Tryz.ntmps11
  go_wp2_with fail
  refine (szWeb_calls x0 _ _ (H0.out.below (below_al (below_al (Below.refl _ _) _) _)) (by omega) (by omega) hz0.out).mono ?_
  rintro e w1 ⟨rfl, hb⟩
  have hF := Far.of_below hb
  have zs1 : w.heap.size + 1 + 1 ≤ w1.heap.size := by have := hF.size; (try simp at this); omega
  have c0_0 : w1.cell? ⟨w.heap.size, 0, none⟩ = some (.slice A0_0 x0.Nodes.length C0_0) := by rw [hF.cell (by first | (simp; done) | (simp; omega) | omega) (by omega)]; first | exact c0_0 | go_simp
  have c1_0 : w1.cell? ⟨w.heap.size + 1, 0, none⟩ = some (.slice A1_0 x1.Roots.length C1_0) := by rw [hF.cell (by first | (simp; done) | (simp; omega) | omega) (by omega)]; first | exact c1_0 | go_simp
  have c1_1 : w1.cell? ⟨w.heap.size + 1, 1, none⟩ = some (.slice A1_1 x1.Runs.length C1_1) := by rw [hF.cell (by first | (simp; done) | (simp; omega) | omega) (by omega)]; first | exact c1_1 | go_simp
  have z0 : w.heap.size < w1.heap.size := by omega
  have z1 : w.heap.size + 1 < w1.heap.size := by omega
  have HB_1 := Asd.mk (Far.trans3 (below_al (below_al (Below.refl _ _) _) _) hF (by omega))
  clear hF hb
  go_wp2_with fail
  refine (szState_calls x1 _ _ (H1.out.below (HB_1.out)) (by omega) (by omega) hz1.out).mono ?_
  rintro e w2 ⟨rfl, hb⟩
  have hF := Far.of_below hb
  have zs2 : w1.heap.size ≤ w2.heap.size := by have := hF.size; (try simp at this); omega
  replace c0_0 : w2.cell? ⟨w.heap.size, 0, none⟩ = some (.slice A0_0 x0.Nodes.length C0_0) := by rw [hF.cell (by first | (simp; done) | (simp; omega) | omega) (by omega)]; first | exact c0_0 | go_simp
  replace c1_0 : w2.cell? ⟨w.heap.size + 1, 0, none⟩ = some (.slice A1_0 x1.Roots.length C1_0) := by rw [hF.cell (by first | (simp; done) | (simp; omega) | omega) (by omega)]; first | exact c1_0 | go_simp
  replace c1_1 : w2.cell? ⟨w.heap.size + 1, 1, none⟩ = some (.slice A1_1 x1.Runs.length C1_1) := by rw [hF.cell (by first | (simp; done) | (simp; omega) | omega) (by omega)]; first | exact c1_1 | go_simp
  replace z0 : w.heap.size < w2.heap.size := by omega
  replace z1 : w.heap.size + 1 < w2.heap.size := by omega
  have HB_2 := Asd.mk (Far.trans3 (HB_1.out) hF (by omega))
  clear hF hb
  go_wp2
  go_ret
  exact ⟨rfl, HB_2.out⟩
 have e1 : szI (x1.bk) (1048576 - (x0.bk : Nat)) = 1048576 - (x0.bk : Nat) - (x1.bk : Nat) := szI_yes q1
 obtain ⟨g, gx⟩ : ∃ g, circleC x0 x1 = g := ⟨_, rfl⟩
 obtain ⟨KA0, ka0⟩ : ∃ K, 1 + cntl (x0.c 113 121 213) = K := ⟨_, rfl⟩
 have la0 : 1 ≤ KA0 := by omega
 obtain ⟨KA1, ka1⟩ : ∃ K, KA0 + cntl (x1.c 84) = K := ⟨_, rfl⟩
 have la1 : KA0 ≤ KA1 := by omega
 obtain ⟨KG0, kg0⟩ : ∃ K, 1 + cnt (strsT 9 g) = K := ⟨_, rfl⟩
 have lg0 : 1 ≤ KG0 := by omega
 have hc_ : cntl (x0.c 113 121 213) ≤ 6 * x0.bk := Web.cnt_le x0
 have hc2_ : cntl (x1.c 84) ≤ 6 * x1.bk := State.cnt_le _ x1
 have hg_ : cnt (strsT 9 g) ≤ 3000 := by rw [← gx]; exact Nat.le_trans (circleC_cnt _ x0 x1) (by decide)
 have hKA : KA1 ≤ 1000000000 := by omega
 have hKG : KG0 ≤ 1000000000 := by omega
 replace ka0 := Asd.mk ka0
 replace ka1 := Asd.mk ka1
 replace kg0 := Asd.mk kg0
 clear hc_
 go_enter Tryz.func11, Tryz.ntmps11
 go_wp2_with fail
 refine (szWeb_calls x0 _ _ (H0.out.below (below_al (below_al (Below.refl _ _) _) _)) (by omega) (by omega) hz0.out).mono ?_
 rintro e w1 ⟨rfl, hb⟩
 have hF := Far.of_below hb
 have zs1 : w.heap.size + 1 + 1 ≤ w1.heap.size := by have := hF.size; (try simp at this); omega
 have c0_0 : w1.cell? ⟨w.heap.size, 0, none⟩ = some (.slice A0_0 x0.Nodes.length C0_0) := by rw [hF.cell (by first | (simp; done) | (simp; omega) | omega) (by omega)]; first | exact c0_0 | go_simp
 have c1_0 : w1.cell? ⟨w.heap.size + 1, 0, none⟩ = some (.slice A1_0 x1.Roots.length C1_0) := by rw [hF.cell (by first | (simp; done) | (simp; omega) | omega) (by omega)]; first | exact c1_0 | go_simp
 have c1_1 : w1.cell? ⟨w.heap.size + 1, 1, none⟩ = some (.slice A1_1 x1.Runs.length C1_1) := by rw [hF.cell (by first | (simp; done) | (simp; omega) | omega) (by omega)]; first | exact c1_1 | go_simp
 have z0 : w.heap.size < w1.heap.size := by omega
 have z1 : w.heap.size + 1 < w1.heap.size := by omega
 have HB_1 := Asd.mk (Far.trans3 (below_al (below_al (Below.refl _ _) _) _) hF (by omega))
 clear hF hb
 go_wp2_with fail
 refine (szState_calls x1 _ _ (H1.out.below (HB_1.out)) (by omega) (by omega) hz1.out).mono ?_
 rintro e w2 ⟨rfl, hb⟩
 have hF := Far.of_below hb
 have zs2 : w1.heap.size ≤ w2.heap.size := by have := hF.size; (try simp at this); omega
 replace c0_0 : w2.cell? ⟨w.heap.size, 0, none⟩ = some (.slice A0_0 x0.Nodes.length C0_0) := by rw [hF.cell (by first | (simp; done) | (simp; omega) | omega) (by omega)]; first | exact c0_0 | go_simp
 replace c1_0 : w2.cell? ⟨w.heap.size + 1, 0, none⟩ = some (.slice A1_0 x1.Roots.length C1_0) := by rw [hF.cell (by first | (simp; done) | (simp; omega) | omega) (by omega)]; first | exact c1_0 | go_simp
 replace c1_1 : w2.cell? ⟨w.heap.size + 1, 1, none⟩ = some (.slice A1_1 x1.Runs.length C1_1) := by rw [hF.cell (by first | (simp; done) | (simp; omega) | omega) (by omega)]; first | exact c1_1 | go_simp
 replace z0 : w.heap.size < w2.heap.size := by omega
 replace z1 : w.heap.size + 1 < w2.heap.size := by omega
 have HB_2 := Asd.mk (Far.trans3 (HB_1.out) hF (by omega))
 clear hF hb
 have hkeep := Asd.mk (show ∀ W, Below w2.heap.size w2 W → (Below w2.heap.size w2 W ∧ W.cell? ⟨w.heap.size, 0, none⟩ = some (.slice A0_0 x0.Nodes.length C0_0) ∧ W.cell? ⟨w.heap.size + 1, 0, none⟩ = some (.slice A1_0 x1.Roots.length C1_0) ∧ W.cell? ⟨w.heap.size + 1, 1, none⟩ = some (.slice A1_1 x1.Runs.length C1_1)) from fun W hb => ⟨hb, cell_below hb c0_0, cell_below hb c1_0, cell_below hb c1_1⟩)
 have s_0 : Below w2.heap.size w2 w2.drew := (Below.refl _ _).drew
 go_wp2
 go_region_held3 (fun W => Below w2.heap.size w2 W ∧ W.cell? ⟨w.heap.size, 0, none⟩ = some (.slice A0_0 x0.Nodes.length C0_0) ∧ W.cell? ⟨w.heap.size + 1, 0, none⟩ = some (.slice A1_0 x1.Roots.length C1_0) ∧ W.cell? ⟨w.heap.size + 1, 1, none⟩ = some (.slice A1_1 x1.Runs.length C1_1)) ((refine hkeep.out _ ?_; (repeat first|with_reducible (first|exact Below.refl _ _|exact s_0|refine below_al ?_ _|refine below_dr ?_ _|refine below_d1 ?_)|(with_reducible refine Below.setCell ?_ ?_ _;rotate_left;next => first|(simp;done)|(simp;omega)|omega))))
  (first | (go_at_call 18; refine (toWeb_calls x0 _ (H0.out.below (below_st (HB_2.out) (show Below w2.heap.size w2 _ from by repeat first|with_reducible (first|exact Below.refl _ _|exact s_0|refine below_al ?_ _|refine below_dr ?_ _|refine below_d1 ?_)|(with_reducible refine Below.setCell ?_ ?_ _;rotate_left;next => first|(simp;done)|(simp;omega)|omega)))) (by omega)).mono ?_; rintro e W0 ⟨us, rfl, ⟨F_, o_, n_, l_⟩, hb⟩; obtain ⟨v_0, G_0, rfl, p_0, rfl⟩ := Web.oopen o_; obtain ⟨D0_0, d0_0, rfl, _, _⟩ := own_slice p_0; have r_s0 := Asd.mk o_.rep; obtain ⟨s_0, s_1, s_2, s_3⟩ := hkeep.out _ (below_st (show Below w2.heap.size w2 _ from by repeat first|with_reducible (first|exact Below.refl _ _|exact s_0|refine below_al ?_ _|refine below_dr ?_ _|refine below_d1 ?_)|(with_reducible refine Below.setCell ?_ ?_ _;rotate_left;next => first|(simp;done)|(simp;omega)|omega)) hb); clear hb o_ l_ n_ p_0) | (go_at_call 19; refine (toState_calls x1 _ (H1.out.below (below_st (HB_2.out) (show Below w2.heap.size w2 _ from by repeat first|with_reducible (first|exact Below.refl _ _|exact s_0|refine below_al ?_ _|refine below_dr ?_ _|refine below_d1 ?_)|(with_reducible refine Below.setCell ?_ ?_ _;rotate_left;next => first|(simp;done)|(simp;omega)|omega)))) (by omega)).mono ?_; rintro e W1 ⟨us, rfl, ⟨F_, o_, n_, l_⟩, hb⟩; obtain ⟨v_0, G_0, v_1, G_1, rfl, p_0, p_1, rfl⟩ := State.oopen o_; obtain ⟨D1_0, d1_0, rfl, _, _⟩ := own_slice p_0; obtain ⟨D1_1, d1_1, rfl, _, _⟩ := own_slice p_1; have r_s1 := Asd.mk o_.rep; replace r_s0 := Asd.mk (r_s0.out.below (below_st (by repeat first|with_reducible (first|exact Below.refl _ _|refine below_al ?_ _|refine below_dr ?_ _|refine below_d1 ?_)|(with_reducible refine Below.setCell ?_ ?_ _;rotate_left;next => first|(simp;done)|(simp;omega)|omega)) hb)); obtain ⟨s_0, s_1, s_2, s_3⟩ := hkeep.out _ (below_st (show Below w2.heap.size w2 _ from by repeat first|with_reducible (first|exact Below.refl _ _|exact s_0|refine below_al ?_ _|refine below_dr ?_ _|refine below_d1 ?_)|(with_reducible refine Below.setCell ?_ ?_ _;rotate_left;next => first|(simp;done)|(simp;omega)|omega)) hb); clear hb o_ l_ n_ p_0 p_1) | (go_at_call 54; refine (sCircle_calls x0 x1 _ (r_s0.out.below (by repeat first|with_reducible (first|exact Below.refl _ _|refine below_al ?_ _|refine below_dr ?_ _|refine below_d1 ?_)|(with_reducible refine Below.setCell ?_ ?_ _;rotate_left;next => first|(simp;done)|(simp;omega)|omega))) (r_s1.out.below (by repeat first|with_reducible (first|exact Below.refl _ _|refine below_al ?_ _|refine below_dr ?_ _|refine below_d1 ?_)|(with_reducible refine Below.setCell ?_ ?_ _;rotate_left;next => first|(simp;done)|(simp;omega)|omega))) (Web.zsm hz0.out)).mono ?_; rw [gx]; rintro e w3 ⟨v_, rfl, hM, hb⟩; have I_w0 : Asd (Iv _ w3.heap.size w3 ([strsT 9 g]) [v_]) := Asd.mk ((Iv.of_lie hM.lie).mono (Nat.le_refl _) (Nat.le_refl _)); obtain ⟨F_, o_, _, _⟩ := hM; obtain ⟨Aw0, Cw0, rfl, _, _⟩ := own_slice o_; clear o_; obtain ⟨s_0, s_1, s_2, s_3⟩ := hkeep.out _ (below_st (show Below w2.heap.size w2 _ from by repeat first|with_reducible (first|exact Below.refl _ _|exact s_0|refine below_al ?_ _|refine below_dr ?_ _|refine below_d1 ?_)|(with_reducible refine Below.setCell ?_ ?_ _;rotate_left;next => first|(simp;done)|(simp;omega)|omega)) hb); clear hb))
 have hF : Far 0 0 w2 w3 := Far.of_below s_0
 clear hkeep s_0 s_1 s_2 s_3 r_s0 r_s1
 have zs3 : w2.heap.size ≤ w3.heap.size := by have := hF.size; (try simp at this); omega
 replace c0_0 : w3.cell? ⟨w.heap.size, 0, none⟩ = some (.slice A0_0 x0.Nodes.length C0_0) := by rw [hF.cell (by first | (simp; done) | (simp; omega) | omega) (by omega)]; first | exact c0_0 | go_simp
 replace c1_0 : w3.cell? ⟨w.heap.size + 1, 0, none⟩ = some (.slice A1_0 x1.Roots.length C1_0) := by rw [hF.cell (by first | (simp; done) | (simp; omega) | omega) (by omega)]; first | exact c1_0 | go_simp
 replace c1_1 : w3.cell? ⟨w.heap.size + 1, 1, none⟩ = some (.slice A1_1 x1.Runs.length C1_1) := by rw [hF.cell (by first | (simp; done) | (simp; omega) | omega) (by omega)]; first | exact c1_1 | go_simp
 replace z0 : w.heap.size < w3.heap.size := by omega
 replace z1 : w.heap.size + 1 < w3.heap.size := by omega
 have HB_3 := Asd.mk (Far.trans3 (HB_2.out) hF (by omega))
 clear hF
 go_wp2_with fail
 refine (toWeb_calls x0 _ (H0.out.below (HB_3.out)) (by omega)).mono ?_
 rintro e w4 ⟨us, rfl, hM, hb⟩
 have hF := Far.of_below hb
 have I_i0 : Asd (Iv (w3.heap.size) w4.heap.size w4 (x0.c 113 121 213) us) := Asd.mk ((Iv.of_mades hM).mono (by simp) (Nat.le_refl _))
 obtain ⟨F_, o_, _, _⟩ := hM
 obtain ⟨v_0, G_0, rfl, p_0, rfl⟩ := Web.oopen o_
 obtain ⟨Ai0_0, Ci0_0, rfl, _, _⟩ := own_slice p_0
 clear o_ p_0
 have zs4 : w3.heap.size ≤ w4.heap.size := by have := hF.size; (try simp at this); omega
 replace c0_0 : w4.cell? ⟨w.heap.size, 0, none⟩ = some (.slice A0_0 x0.Nodes.length C0_0) := by rw [hF.cell (by first | (simp; done) | (simp; omega) | omega) (by omega)]; first | exact c0_0 | go_simp
 replace c1_0 : w4.cell? ⟨w.heap.size + 1, 0, none⟩ = some (.slice A1_0 x1.Roots.length C1_0) := by rw [hF.cell (by first | (simp; done) | (simp; omega) | omega) (by omega)]; first | exact c1_0 | go_simp
 replace c1_1 : w4.cell? ⟨w.heap.size + 1, 1, none⟩ = some (.slice A1_1 x1.Runs.length C1_1) := by rw [hF.cell (by first | (simp; done) | (simp; omega) | omega) (by omega)]; first | exact c1_1 | go_simp
 replace z0 : w.heap.size < w4.heap.size := by omega
 replace z1 : w.heap.size + 1 < w4.heap.size := by omega
 have HB_4 := Asd.mk (Far.trans3 (HB_3.out) hF (by omega))
 replace I_w0 := Asd.mk ((I_w0.out.below (Below.refl _ _)).far hF (by omega))
 clear hF hb
 go_wp2_with fail
 refine (toState_calls x1 _ (H1.out.below (below_al (HB_4.out) _)) (by omega)).mono ?_
 rintro e w5 ⟨us, rfl, hM, hb⟩
 have hF := Far.of_below hb
 have I_i1 : Asd (Iv (w4.heap.size + 1) w5.heap.size w5 (x1.c 84) us) := Asd.mk ((Iv.of_mades hM).mono (by simp) (Nat.le_refl _))
 obtain ⟨F_, o_, _, _⟩ := hM
 obtain ⟨v_0, G_0, v_1, G_1, rfl, p_0, p_1, rfl⟩ := State.oopen o_
 obtain ⟨Ai1_0, Ci1_0, rfl, _, _⟩ := own_slice p_0
 obtain ⟨Ai1_1, Ci1_1, rfl, _, _⟩ := own_slice p_1
 clear o_ p_0 p_1
 have zs5 : w4.heap.size + 1 ≤ w5.heap.size := by have := hF.size; (try simp at this); omega
 replace c0_0 : w5.cell? ⟨w.heap.size, 0, none⟩ = some (.slice A0_0 x0.Nodes.length C0_0) := by rw [hF.cell (by first | (simp; done) | (simp; omega) | omega) (by omega)]; first | exact c0_0 | go_simp
 replace c1_0 : w5.cell? ⟨w.heap.size + 1, 0, none⟩ = some (.slice A1_0 x1.Roots.length C1_0) := by rw [hF.cell (by first | (simp; done) | (simp; omega) | omega) (by omega)]; first | exact c1_0 | go_simp
 replace c1_1 : w5.cell? ⟨w.heap.size + 1, 1, none⟩ = some (.slice A1_1 x1.Runs.length C1_1) := by rw [hF.cell (by first | (simp; done) | (simp; omega) | omega) (by omega)]; first | exact c1_1 | go_simp
 have c2_0 : w5.cell? ⟨w4.heap.size, 0, none⟩ = some (.slice Ai0_0 x0.Nodes.length Ci0_0) := by rw [hF.cell (by first | (simp; done) | (simp; omega) | omega) (by omega)]; first | exact c2_0 | go_simp
 replace z0 : w.heap.size < w5.heap.size := by omega
 replace z1 : w.heap.size + 1 < w5.heap.size := by omega
 have z2 : w4.heap.size < w5.heap.size := by omega
 have HB_5 := Asd.mk (Far.trans3 (below_al (HB_4.out) _) hF (by omega))
 replace I_w0 := Asd.mk ((I_w0.out.below (below_al (Below.refl _ _) _)).far hF (by omega))
 replace I_i0 := Asd.mk ((I_i0.out.below (below_al (Below.refl _ _) _)).far hF (by omega))
 clear hF hb
 go_wp2_with fail
 refine (Circle_calls x0 x1 _ (I_i0.out.reps.below (below_al (Below.refl _ _) _)) (I_i1.out.reps.below (below_al (Below.refl _ _) _)) (Web.zsm hz0.out) (Nat.lt_of_lt_of_le hg (below_al (HB_5.out) _).size) (cell_below (below_al (HB_5.out) _) ht)).mono ?_
 rw [gx]
 rintro e w6 ⟨v_, rfl, hM, hb⟩
 have hF := Far.of_below hb
 have I_g0 : Asd (Iv (w5.heap.size + 1) w6.heap.size w6 ([strsT 9 g]) [v_]) := Asd.mk ((Iv.of_lie hM.lie).mono (by simp) (Nat.le_refl _))
 obtain ⟨F_, o_, _, _⟩ := hM
 obtain ⟨Ag0, Cg0, rfl, _, _⟩ := own_slice o_
 clear o_
 have zs6 : w5.heap.size + 1 ≤ w6.heap.size := by have := hF.size; (try simp at this); omega
 replace c0_0 : w6.cell? ⟨w.heap.size, 0, none⟩ = some (.slice A0_0 x0.Nodes.length C0_0) := by rw [hF.cell (by first | (simp; done) | (simp; omega) | omega) (by omega)]; first | exact c0_0 | go_simp
 replace c1_0 : w6.cell? ⟨w.heap.size + 1, 0, none⟩ = some (.slice A1_0 x1.Roots.length C1_0) := by rw [hF.cell (by first | (simp; done) | (simp; omega) | omega) (by omega)]; first | exact c1_0 | go_simp
 replace c1_1 : w6.cell? ⟨w.heap.size + 1, 1, none⟩ = some (.slice A1_1 x1.Runs.length C1_1) := by rw [hF.cell (by first | (simp; done) | (simp; omega) | omega) (by omega)]; first | exact c1_1 | go_simp
 replace c2_0 : w6.cell? ⟨w4.heap.size, 0, none⟩ = some (.slice Ai0_0 x0.Nodes.length Ci0_0) := by rw [hF.cell (by first | (simp; done) | (simp; omega) | omega) (by omega)]; first | exact c2_0 | go_simp
 have c3_0 : w6.cell? ⟨w5.heap.size, 0, none⟩ = some (.slice Ai1_0 x1.Roots.length Ci1_0) := by rw [hF.cell (by first | (simp; done) | (simp; omega) | omega) (by omega)]; first | exact c3_0 | go_simp
 have c3_1 : w6.cell? ⟨w5.heap.size, 1, none⟩ = some (.slice Ai1_1 x1.Runs.length Ci1_1) := by rw [hF.cell (by first | (simp; done) | (simp; omega) | omega) (by omega)]; first | exact c3_1 | go_simp
 replace z0 : w.heap.size < w6.heap.size := by omega
 replace z1 : w.heap.size + 1 < w6.heap.size := by omega
 replace z2 : w4.heap.size < w6.heap.size := by omega
 have z3 : w5.heap.size < w6.heap.size := by omega
 have HB_6 := Asd.mk (Far.trans3 (below_al (HB_5.out) _) hF (by omega))
 replace I_w0 := Asd.mk ((I_w0.out.below (below_al (Below.refl _ _) _)).far hF (by omega))
 replace I_i0 := Asd.mk ((I_i0.out.below (below_al (Below.refl _ _) _)).far hF (by omega))
 replace I_i1 := Asd.mk ((I_i1.out.below (below_al (Below.refl _ _) _)).far hF (by omega))
 clear hF hb
 have y_0 : eqB (g) (g) = true := eqB_yes rfl
 go_wp2_with fail
 refine (eqStringS_calls (g) (g) _ _ _ (reps_one (I_g0.out.reps.below (Below.refl _ _))) (reps_one (I_w0.out.reps.below (Below.refl _ _)))).mono ?_
 rintro e w7 ⟨rfl, hb⟩
 have hF := Far.of_below hb
 have zs7 : w6.heap.size ≤ w7.heap.size := by have := hF.size; (try simp at this); omega
 replace c0_0 : w7.cell? ⟨w.heap.size, 0, none⟩ = some (.slice A0_0 x0.Nodes.length C0_0) := by rw [hF.cell (by first | (simp; done) | (simp; omega) | omega) (by omega)]; first | exact c0_0 | go_simp
 replace c1_0 : w7.cell? ⟨w.heap.size + 1, 0, none⟩ = some (.slice A1_0 x1.Roots.length C1_0) := by rw [hF.cell (by first | (simp; done) | (simp; omega) | omega) (by omega)]; first | exact c1_0 | go_simp
 replace c1_1 : w7.cell? ⟨w.heap.size + 1, 1, none⟩ = some (.slice A1_1 x1.Runs.length C1_1) := by rw [hF.cell (by first | (simp; done) | (simp; omega) | omega) (by omega)]; first | exact c1_1 | go_simp
 replace c2_0 : w7.cell? ⟨w4.heap.size, 0, none⟩ = some (.slice Ai0_0 x0.Nodes.length Ci0_0) := by rw [hF.cell (by first | (simp; done) | (simp; omega) | omega) (by omega)]; first | exact c2_0 | go_simp
 replace c3_0 : w7.cell? ⟨w5.heap.size, 0, none⟩ = some (.slice Ai1_0 x1.Roots.length Ci1_0) := by rw [hF.cell (by first | (simp; done) | (simp; omega) | omega) (by omega)]; first | exact c3_0 | go_simp
 replace c3_1 : w7.cell? ⟨w5.heap.size, 1, none⟩ = some (.slice Ai1_1 x1.Runs.length Ci1_1) := by rw [hF.cell (by first | (simp; done) | (simp; omega) | omega) (by omega)]; first | exact c3_1 | go_simp
 replace z0 : w.heap.size < w7.heap.size := by omega
 replace z1 : w.heap.size + 1 < w7.heap.size := by omega
 replace z2 : w4.heap.size < w7.heap.size := by omega
 replace z3 : w5.heap.size < w7.heap.size := by omega
 have HB_7 := Asd.mk (Far.trans3 (HB_6.out) hF (by omega))
 replace I_w0 := Asd.mk ((I_w0.out.below (Below.refl _ _)).far hF (by omega))
 replace I_i0 := Asd.mk ((I_i0.out.below (Below.refl _ _)).far hF (by omega))
 replace I_i1 := Asd.mk ((I_i1.out.below (Below.refl _ _)).far hF (by omega))
 replace I_g0 := Asd.mk ((I_g0.out.below (Below.refl _ _)).far hF (by omega))
 clear hF hb
 have yx_0 : eqB x0 x0 = true := eqB_yes rfl
 have hkeep : ∀ W W', Below W.heap.size W W' → (Below w7.heap.size w7 W ∧ W.cell? ⟨w.heap.size, 0, none⟩ = some (.slice A0_0 x0.Nodes.length C0_0) ∧ W.cell? ⟨w4.heap.size, 0, none⟩ = some (.slice Ai0_0 x0.Nodes.length Ci0_0)) → (Below w7.heap.size w7 W' ∧ W'.cell? ⟨w.heap.size, 0, none⟩ = some (.slice A0_0 x0.Nodes.length C0_0) ∧ W'.cell? ⟨w4.heap.size, 0, none⟩ = some (.slice Ai0_0 x0.Nodes.length Ci0_0)) := by
  rintro W W' hb ⟨q_0, q_1, q_2⟩
  exact ⟨below_st q_0 hb, cell_below hb q_1, cell_below hb q_2⟩
 replace hkeep := Asd.mk hkeep
 have hbs : Below w7.heap.size w7 w7.drew := (Below.refl _ _).drew
 go_wp2
 go_region_held3 (fun W => Below w7.heap.size w7 W ∧ W.cell? ⟨w.heap.size, 0, none⟩ = some (.slice A0_0 x0.Nodes.length C0_0) ∧ W.cell? ⟨w4.heap.size, 0, none⟩ = some (.slice Ai0_0 x0.Nodes.length Ci0_0)) (go_keep)
  (first | (go_at_call 18; refine (toWeb_calls x0 _ (H0.out.below (below_st HB_7.out (by assumption))) (by omega)).mono ?_; rintro e W6 ⟨us, rfl, ⟨F_, o_, n_, l_⟩, hb⟩; obtain ⟨v_0, G_0, rfl, p_0, rfl⟩ := Web.oopen o_; obtain ⟨D_0, d_0, rfl, _, _⟩ := own_slice p_0; have r6 := Asd.mk o_.rep; obtain ⟨s_0, s_1, s_2⟩ := hkeep.out _ _ hb ⟨by assumption, by first | assumption | exact c0_0, by first | assumption | exact c2_0⟩; clear hb o_ l_ p_0) | (go_at_call 21; refine (eqWeb_calls x0 x0 _ (I_i0.out.reps.below (by assumption)) r6.out).mono ?_; rintro e w8 ⟨rfl, hb⟩; obtain ⟨s_0, s_1, s_2⟩ := hkeep.out _ _ hb ⟨by assumption, by first | assumption | exact c0_0, by first | assumption | exact c2_0⟩; clear hb))
 have hF : Far 0 0 w7 w8 := Far.of_below s_0
 clear hkeep s_0 s_1 s_2 r6 hbs
 have zs8 : w7.heap.size ≤ w8.heap.size := by have := hF.size; (try simp at this); omega
 replace c0_0 : w8.cell? ⟨w.heap.size, 0, none⟩ = some (.slice A0_0 x0.Nodes.length C0_0) := by rw [hF.cell (by first | (simp; done) | (simp; omega) | omega) (by omega)]; first | exact c0_0 | go_simp
 replace c1_0 : w8.cell? ⟨w.heap.size + 1, 0, none⟩ = some (.slice A1_0 x1.Roots.length C1_0) := by rw [hF.cell (by first | (simp; done) | (simp; omega) | omega) (by omega)]; first | exact c1_0 | go_simp
 replace c1_1 : w8.cell? ⟨w.heap.size + 1, 1, none⟩ = some (.slice A1_1 x1.Runs.length C1_1) := by rw [hF.cell (by first | (simp; done) | (simp; omega) | omega) (by omega)]; first | exact c1_1 | go_simp
 replace c2_0 : w8.cell? ⟨w4.heap.size, 0, none⟩ = some (.slice Ai0_0 x0.Nodes.length Ci0_0) := by rw [hF.cell (by first | (simp; done) | (simp; omega) | omega) (by omega)]; first | exact c2_0 | go_simp
 replace c3_0 : w8.cell? ⟨w5.heap.size, 0, none⟩ = some (.slice Ai1_0 x1.Roots.length Ci1_0) := by rw [hF.cell (by first | (simp; done) | (simp; omega) | omega) (by omega)]; first | exact c3_0 | go_simp
 replace c3_1 : w8.cell? ⟨w5.heap.size, 1, none⟩ = some (.slice Ai1_1 x1.Runs.length Ci1_1) := by rw [hF.cell (by first | (simp; done) | (simp; omega) | omega) (by omega)]; first | exact c3_1 | go_simp
 replace z0 : w.heap.size < w8.heap.size := by omega
 replace z1 : w.heap.size + 1 < w8.heap.size := by omega
 replace z2 : w4.heap.size < w8.heap.size := by omega
 replace z3 : w5.heap.size < w8.heap.size := by omega
 have HB_8 := Asd.mk (Far.trans3 (HB_7.out) hF (by omega))
 replace I_w0 := Asd.mk ((I_w0.out.below (Below.refl _ _)).far hF (by omega))
 replace I_i0 := Asd.mk ((I_i0.out.below (Below.refl _ _)).far hF (by omega))
 replace I_i1 := Asd.mk ((I_i1.out.below (Below.refl _ _)).far hF (by omega))
 replace I_g0 := Asd.mk ((I_g0.out.below (Below.refl _ _)).far hF (by omega))
 clear hF
 have yx_1 : eqB x1 x1 = true := eqB_yes rfl
 have hkeep : ∀ W W', Below W.heap.size W W' → (Below w8.heap.size w8 W ∧ W.cell? ⟨w.heap.size + 1, 0, none⟩ = some (.slice A1_0 x1.Roots.length C1_0) ∧ W.cell? ⟨w.heap.size + 1, 1, none⟩ = some (.slice A1_1 x1.Runs.length C1_1) ∧ W.cell? ⟨w5.heap.size, 0, none⟩ = some (.slice Ai1_0 x1.Roots.length Ci1_0) ∧ W.cell? ⟨w5.heap.size, 1, none⟩ = some (.slice Ai1_1 x1.Runs.length Ci1_1)) → (Below w8.heap.size w8 W' ∧ W'.cell? ⟨w.heap.size + 1, 0, none⟩ = some (.slice A1_0 x1.Roots.length C1_0) ∧ W'.cell? ⟨w.heap.size + 1, 1, none⟩ = some (.slice A1_1 x1.Runs.length C1_1) ∧ W'.cell? ⟨w5.heap.size, 0, none⟩ = some (.slice Ai1_0 x1.Roots.length Ci1_0) ∧ W'.cell? ⟨w5.heap.size, 1, none⟩ = some (.slice Ai1_1 x1.Runs.length Ci1_1)) := by
  rintro W W' hb ⟨q_0, q_1, q_2, q_3, q_4⟩
  exact ⟨below_st q_0 hb, cell_below hb q_1, cell_below hb q_2, cell_below hb q_3, cell_below hb q_4⟩
 replace hkeep := Asd.mk hkeep
 have hbs : Below w8.heap.size w8 w8.drew := (Below.refl _ _).drew
 go_wp2
 go_region_held3 (fun W => Below w8.heap.size w8 W ∧ W.cell? ⟨w.heap.size + 1, 0, none⟩ = some (.slice A1_0 x1.Roots.length C1_0) ∧ W.cell? ⟨w.heap.size + 1, 1, none⟩ = some (.slice A1_1 x1.Runs.length C1_1) ∧ W.cell? ⟨w5.heap.size, 0, none⟩ = some (.slice Ai1_0 x1.Roots.length Ci1_0) ∧ W.cell? ⟨w5.heap.size, 1, none⟩ = some (.slice Ai1_1 x1.Runs.length Ci1_1)) (go_keep)
  (first | (go_at_call 19; refine (toState_calls x1 _ (H1.out.below (below_st HB_8.out (by assumption))) (by omega)).mono ?_; rintro e W6 ⟨us, rfl, ⟨F_, o_, n_, l_⟩, hb⟩; obtain ⟨v_0, G_0, v_1, G_1, rfl, p_0, p_1, rfl⟩ := State.oopen o_; obtain ⟨D_0, d_0, rfl, _, _⟩ := own_slice p_0; obtain ⟨D_1, d_1, rfl, _, _⟩ := own_slice p_1; have r6 := Asd.mk o_.rep; obtain ⟨s_0, s_1, s_2, s_3, s_4⟩ := hkeep.out _ _ hb ⟨by assumption, by first | assumption | exact c1_0, by first | assumption | exact c1_1, by first | assumption | exact c3_0, by first | assumption | exact c3_1⟩; clear hb o_ l_ p_0 p_1) | (go_at_call 22; refine (eqState_calls x1 x1 _ (I_i1.out.reps.below (by assumption)) r6.out).mono ?_; rintro e w9 ⟨rfl, hb⟩; obtain ⟨s_0, s_1, s_2, s_3, s_4⟩ := hkeep.out _ _ hb ⟨by assumption, by first | assumption | exact c1_0, by first | assumption | exact c1_1, by first | assumption | exact c3_0, by first | assumption | exact c3_1⟩; clear hb))
 have hF : Far 0 0 w8 w9 := Far.of_below s_0
 clear hkeep s_0 s_1 s_2 s_3 s_4 r6 hbs
 have zs9 : w8.heap.size ≤ w9.heap.size := by have := hF.size; (try simp at this); omega
 replace c0_0 : w9.cell? ⟨w.heap.size, 0, none⟩ = some (.slice A0_0 x0.Nodes.length C0_0) := by rw [hF.cell (by first | (simp; done) | (simp; omega) | omega) (by omega)]; first | exact c0_0 | go_simp
 replace c1_0 : w9.cell? ⟨w.heap.size + 1, 0, none⟩ = some (.slice A1_0 x1.Roots.length C1_0) := by rw [hF.cell (by first | (simp; done) | (simp; omega) | omega) (by omega)]; first | exact c1_0 | go_simp
 replace c1_1 : w9.cell? ⟨w.heap.size + 1, 1, none⟩ = some (.slice A1_1 x1.Runs.length C1_1) := by rw [hF.cell (by first | (simp; done) | (simp; omega) | omega) (by omega)]; first | exact c1_1 | go_simp
 replace c2_0 : w9.cell? ⟨w4.heap.size, 0, none⟩ = some (.slice Ai0_0 x0.Nodes.length Ci0_0) := by rw [hF.cell (by first | (simp; done) | (simp; omega) | omega) (by omega)]; first | exact c2_0 | go_simp
 replace c3_0 : w9.cell? ⟨w5.heap.size, 0, none⟩ = some (.slice Ai1_0 x1.Roots.length Ci1_0) := by rw [hF.cell (by first | (simp; done) | (simp; omega) | omega) (by omega)]; first | exact c3_0 | go_simp
 replace c3_1 : w9.cell? ⟨w5.heap.size, 1, none⟩ = some (.slice Ai1_1 x1.Runs.length Ci1_1) := by rw [hF.cell (by first | (simp; done) | (simp; omega) | omega) (by omega)]; first | exact c3_1 | go_simp
 replace z0 : w.heap.size < w9.heap.size := by omega
 replace z1 : w.heap.size + 1 < w9.heap.size := by omega
 replace z2 : w4.heap.size < w9.heap.size := by omega
 replace z3 : w5.heap.size < w9.heap.size := by omega
 have HB_9 := Asd.mk (Far.trans3 (HB_8.out) hF (by omega))
 replace I_w0 := Asd.mk ((I_w0.out.below (Below.refl _ _)).far hF (by omega))
 replace I_i0 := Asd.mk ((I_i0.out.below (Below.refl _ _)).far hF (by omega))
 replace I_i1 := Asd.mk ((I_i1.out.below (Below.refl _ _)).far hF (by omega))
 replace I_g0 := Asd.mk ((I_g0.out.below (Below.refl _ _)).far hF (by omega))
 clear hF
 go_wp2_with fail
 refine (markWeb_calls (x0) _ _ (1) _ _ (by first | rfl | omega) (I_i0.out.below (Below.refl _ _)) (by omega) (by have := ka0.out; omega)).mono ?_
 rintro e w10 ⟨he, hI, hF⟩
 rw [ka0.out] at he
 subst he
 replace hI := Asd.mk hI
 have zs10 : w9.heap.size ≤ w10.heap.size := by have := hF.size; (try simp at this); omega
 replace c0_0 : w10.cell? ⟨w.heap.size, 0, none⟩ = some (.slice A0_0 x0.Nodes.length C0_0) := by rw [hF.cell (by first | (simp; done) | (simp; omega) | omega) (by omega)]; first | exact c0_0 | go_simp
 replace c1_0 : w10.cell? ⟨w.heap.size + 1, 0, none⟩ = some (.slice A1_0 x1.Roots.length C1_0) := by rw [hF.cell (by first | (simp; done) | (simp; omega) | omega) (by omega)]; first | exact c1_0 | go_simp
 replace c1_1 : w10.cell? ⟨w.heap.size + 1, 1, none⟩ = some (.slice A1_1 x1.Runs.length C1_1) := by rw [hF.cell (by first | (simp; done) | (simp; omega) | omega) (by omega)]; first | exact c1_1 | go_simp
 replace c2_0 : w10.cell? ⟨w4.heap.size, 0, none⟩ = some (.slice Ai0_0 x0.Nodes.length Ci0_0) := by rw [hF.cell (by first | (simp; done) | (simp; omega) | omega) (by omega)]; first | exact c2_0 | go_simp
 replace c3_0 : w10.cell? ⟨w5.heap.size, 0, none⟩ = some (.slice Ai1_0 x1.Roots.length Ci1_0) := by rw [hF.cell (by first | (simp; done) | (simp; omega) | omega) (by omega)]; first | exact c3_0 | go_simp
 replace c3_1 : w10.cell? ⟨w5.heap.size, 1, none⟩ = some (.slice Ai1_1 x1.Runs.length Ci1_1) := by rw [hF.cell (by first | (simp; done) | (simp; omega) | omega) (by omega)]; first | exact c3_1 | go_simp
 replace z0 : w.heap.size < w10.heap.size := by omega
 replace z1 : w.heap.size + 1 < w10.heap.size := by omega
 replace z2 : w4.heap.size < w10.heap.size := by omega
 replace z3 : w5.heap.size < w10.heap.size := by omega
 have HB_10 := Asd.mk (Far.trans3 (HB_9.out) hF (by omega))
 replace I_w0 := Asd.mk ((I_w0.out.below (Below.refl _ _)).far hF (by omega))
 replace I_i1 := Asd.mk ((I_i1.out.below (Below.refl _ _)).far hF (by omega))
 replace I_g0 := Asd.mk ((I_g0.out.below (Below.refl _ _)).far hF (by omega))
 clear hF
 clear I_i0 hI
 go_wp2_with fail
 refine (markState_calls (x1) _ _ (KA0) _ _ (by first | rfl | omega) (I_i1.out.below (Below.refl _ _)) (by omega) (by have := ka1.out; omega)).mono ?_
 rintro e w11 ⟨he, hI, hF⟩
 rw [ka1.out] at he
 subst he
 replace hI := Asd.mk hI
 have zs11 : w10.heap.size ≤ w11.heap.size := by have := hF.size; (try simp at this); omega
 replace c0_0 : w11.cell? ⟨w.heap.size, 0, none⟩ = some (.slice A0_0 x0.Nodes.length C0_0) := by rw [hF.cell (by first | (simp; done) | (simp; omega) | omega) (by omega)]; first | exact c0_0 | go_simp
 replace c1_0 : w11.cell? ⟨w.heap.size + 1, 0, none⟩ = some (.slice A1_0 x1.Roots.length C1_0) := by rw [hF.cell (by first | (simp; done) | (simp; omega) | omega) (by omega)]; first | exact c1_0 | go_simp
 replace c1_1 : w11.cell? ⟨w.heap.size + 1, 1, none⟩ = some (.slice A1_1 x1.Runs.length C1_1) := by rw [hF.cell (by first | (simp; done) | (simp; omega) | omega) (by omega)]; first | exact c1_1 | go_simp
 replace c2_0 : w11.cell? ⟨w4.heap.size, 0, none⟩ = some (.slice Ai0_0 x0.Nodes.length Ci0_0) := by rw [hF.cell (by first | (simp; done) | (simp; omega) | omega) (by omega)]; first | exact c2_0 | go_simp
 replace c3_0 : w11.cell? ⟨w5.heap.size, 0, none⟩ = some (.slice Ai1_0 x1.Roots.length Ci1_0) := by rw [hF.cell (by first | (simp; done) | (simp; omega) | omega) (by omega)]; first | exact c3_0 | go_simp
 replace c3_1 : w11.cell? ⟨w5.heap.size, 1, none⟩ = some (.slice Ai1_1 x1.Runs.length Ci1_1) := by rw [hF.cell (by first | (simp; done) | (simp; omega) | omega) (by omega)]; first | exact c3_1 | go_simp
 replace z0 : w.heap.size < w11.heap.size := by omega
 replace z1 : w.heap.size + 1 < w11.heap.size := by omega
 replace z2 : w4.heap.size < w11.heap.size := by omega
 replace z3 : w5.heap.size < w11.heap.size := by omega
 have HB_11 := Asd.mk (Far.trans3 (HB_10.out) hF (by omega))
 replace I_w0 := Asd.mk ((I_w0.out.below (Below.refl _ _)).far hF (by omega))
 replace I_g0 := Asd.mk ((I_g0.out.below (Below.refl _ _)).far hF (by omega))
 clear hF
 clear I_i1 hI
 go_wp2_with fail
 refine (eqStringS_calls (g) (g) _ _ _ (reps_one (I_g0.out.reps.below (Below.refl _ _))) (reps_one (I_w0.out.reps.below (Below.refl _ _)))).mono ?_
 rintro e w12 ⟨rfl, hb⟩
 have hF := Far.of_below hb
 have zs12 : w11.heap.size ≤ w12.heap.size := by have := hF.size; (try simp at this); omega
 replace c0_0 : w12.cell? ⟨w.heap.size, 0, none⟩ = some (.slice A0_0 x0.Nodes.length C0_0) := by rw [hF.cell (by first | (simp; done) | (simp; omega) | omega) (by omega)]; first | exact c0_0 | go_simp
 replace c1_0 : w12.cell? ⟨w.heap.size + 1, 0, none⟩ = some (.slice A1_0 x1.Roots.length C1_0) := by rw [hF.cell (by first | (simp; done) | (simp; omega) | omega) (by omega)]; first | exact c1_0 | go_simp
 replace c1_1 : w12.cell? ⟨w.heap.size + 1, 1, none⟩ = some (.slice A1_1 x1.Runs.length C1_1) := by rw [hF.cell (by first | (simp; done) | (simp; omega) | omega) (by omega)]; first | exact c1_1 | go_simp
 replace c2_0 : w12.cell? ⟨w4.heap.size, 0, none⟩ = some (.slice Ai0_0 x0.Nodes.length Ci0_0) := by rw [hF.cell (by first | (simp; done) | (simp; omega) | omega) (by omega)]; first | exact c2_0 | go_simp
 replace c3_0 : w12.cell? ⟨w5.heap.size, 0, none⟩ = some (.slice Ai1_0 x1.Roots.length Ci1_0) := by rw [hF.cell (by first | (simp; done) | (simp; omega) | omega) (by omega)]; first | exact c3_0 | go_simp
 replace c3_1 : w12.cell? ⟨w5.heap.size, 1, none⟩ = some (.slice Ai1_1 x1.Runs.length Ci1_1) := by rw [hF.cell (by first | (simp; done) | (simp; omega) | omega) (by omega)]; first | exact c3_1 | go_simp
 replace z0 : w.heap.size < w12.heap.size := by omega
 replace z1 : w.heap.size + 1 < w12.heap.size := by omega
 replace z2 : w4.heap.size < w12.heap.size := by omega
 replace z3 : w5.heap.size < w12.heap.size := by omega
 have HB_12 := Asd.mk (Far.trans3 (HB_11.out) hF (by omega))
 replace I_w0 := Asd.mk ((I_w0.out.below (Below.refl _ _)).far hF (by omega))
 replace I_g0 := Asd.mk ((I_g0.out.below (Below.refl _ _)).far hF (by omega))
 clear hF hb
 go_wp2_with fail
 refine (markStringS_iv (g) _ _ (1) _ _ _ (by first | rfl | omega) (I_g0.out.below (Below.refl _ _)) (by omega) (by have := kg0.out; omega)).mono ?_
 rintro e w13 ⟨he, hI, hF⟩
 rw [kg0.out] at he
 subst he
 replace hI := Asd.mk hI
 have zs13 : w12.heap.size ≤ w13.heap.size := by have := hF.size; (try simp at this); omega
 replace c0_0 : w13.cell? ⟨w.heap.size, 0, none⟩ = some (.slice A0_0 x0.Nodes.length C0_0) := by rw [hF.cell (by first | (simp; done) | (simp; omega) | omega) (by omega)]; first | exact c0_0 | go_simp
 replace c1_0 : w13.cell? ⟨w.heap.size + 1, 0, none⟩ = some (.slice A1_0 x1.Roots.length C1_0) := by rw [hF.cell (by first | (simp; done) | (simp; omega) | omega) (by omega)]; first | exact c1_0 | go_simp
 replace c1_1 : w13.cell? ⟨w.heap.size + 1, 1, none⟩ = some (.slice A1_1 x1.Runs.length C1_1) := by rw [hF.cell (by first | (simp; done) | (simp; omega) | omega) (by omega)]; first | exact c1_1 | go_simp
 replace c2_0 : w13.cell? ⟨w4.heap.size, 0, none⟩ = some (.slice Ai0_0 x0.Nodes.length Ci0_0) := by rw [hF.cell (by first | (simp; done) | (simp; omega) | omega) (by omega)]; first | exact c2_0 | go_simp
 replace c3_0 : w13.cell? ⟨w5.heap.size, 0, none⟩ = some (.slice Ai1_0 x1.Roots.length Ci1_0) := by rw [hF.cell (by first | (simp; done) | (simp; omega) | omega) (by omega)]; first | exact c3_0 | go_simp
 replace c3_1 : w13.cell? ⟨w5.heap.size, 1, none⟩ = some (.slice Ai1_1 x1.Runs.length Ci1_1) := by rw [hF.cell (by first | (simp; done) | (simp; omega) | omega) (by omega)]; first | exact c3_1 | go_simp
 replace z0 : w.heap.size < w13.heap.size := by omega
 replace z1 : w.heap.size + 1 < w13.heap.size := by omega
 replace z2 : w4.heap.size < w13.heap.size := by omega
 replace z3 : w5.heap.size < w13.heap.size := by omega
 have HB_13 := Asd.mk (Far.trans3 (HB_12.out) hF (by omega))
 replace I_w0 := Asd.mk ((I_w0.out.below (Below.refl _ _)).far hF (by omega))
 clear hF
 clear I_g0
 have I_m0 := hI
 clear hI
 go_wp2_with fail
 refine (heldStringS_iv (g) _ _ (1) _ _ _ (by first | rfl | omega) (I_m0.out.below (Below.refl _ _)) (by omega) (by have := kg0.out; omega)).mono ?_
 rintro e w14 ⟨he, hb⟩
 have hF := Far.of_below hb
 rw [kg0.out] at he
 subst he
 have zs14 : w13.heap.size ≤ w14.heap.size := by have := hF.size; (try simp at this); omega
 replace c0_0 : w14.cell? ⟨w.heap.size, 0, none⟩ = some (.slice A0_0 x0.Nodes.length C0_0) := by rw [hF.cell (by first | (simp; done) | (simp; omega) | omega) (by omega)]; first | exact c0_0 | go_simp
 replace c1_0 : w14.cell? ⟨w.heap.size + 1, 0, none⟩ = some (.slice A1_0 x1.Roots.length C1_0) := by rw [hF.cell (by first | (simp; done) | (simp; omega) | omega) (by omega)]; first | exact c1_0 | go_simp
 replace c1_1 : w14.cell? ⟨w.heap.size + 1, 1, none⟩ = some (.slice A1_1 x1.Runs.length C1_1) := by rw [hF.cell (by first | (simp; done) | (simp; omega) | omega) (by omega)]; first | exact c1_1 | go_simp
 replace c2_0 : w14.cell? ⟨w4.heap.size, 0, none⟩ = some (.slice Ai0_0 x0.Nodes.length Ci0_0) := by rw [hF.cell (by first | (simp; done) | (simp; omega) | omega) (by omega)]; first | exact c2_0 | go_simp
 replace c3_0 : w14.cell? ⟨w5.heap.size, 0, none⟩ = some (.slice Ai1_0 x1.Roots.length Ci1_0) := by rw [hF.cell (by first | (simp; done) | (simp; omega) | omega) (by omega)]; first | exact c3_0 | go_simp
 replace c3_1 : w14.cell? ⟨w5.heap.size, 1, none⟩ = some (.slice Ai1_1 x1.Runs.length Ci1_1) := by rw [hF.cell (by first | (simp; done) | (simp; omega) | omega) (by omega)]; first | exact c3_1 | go_simp
 replace z0 : w.heap.size < w14.heap.size := by omega
 replace z1 : w.heap.size + 1 < w14.heap.size := by omega
 replace z2 : w4.heap.size < w14.heap.size := by omega
 replace z3 : w5.heap.size < w14.heap.size := by omega
 have HB_14 := Asd.mk (Far.trans3 (HB_13.out) hF (by omega))
 replace I_w0 := Asd.mk ((I_w0.out.below (Below.refl _ _)).far hF (by omega))
 replace I_m0 := Asd.mk ((I_m0.out.below (Below.refl _ _)).far hF (by omega))
 clear hF hb
 have hkeep := Asd.mk (show ∀ W, Below w14.heap.size w14 W → (Below w14.heap.size w14 W ∧ W.cell? ⟨w.heap.size, 0, none⟩ = some (.slice A0_0 x0.Nodes.length C0_0) ∧ W.cell? ⟨w.heap.size + 1, 0, none⟩ = some (.slice A1_0 x1.Roots.length C1_0) ∧ W.cell? ⟨w.heap.size + 1, 1, none⟩ = some (.slice A1_1 x1.Runs.length C1_1)) from fun W hb => ⟨hb, cell_below hb c0_0, cell_below hb c1_0, cell_below hb c1_1⟩)
 have s_0 : Below w14.heap.size w14 w14.drew := (Below.refl _ _).drew
 go_wp2
 go_region_held3 (fun W => Below w14.heap.size w14 W ∧ W.cell? ⟨w.heap.size, 0, none⟩ = some (.slice A0_0 x0.Nodes.length C0_0) ∧ W.cell? ⟨w.heap.size + 1, 0, none⟩ = some (.slice A1_0 x1.Roots.length C1_0) ∧ W.cell? ⟨w.heap.size + 1, 1, none⟩ = some (.slice A1_1 x1.Runs.length C1_1)) ((refine hkeep.out _ ?_; (repeat first|with_reducible (first|exact Below.refl _ _|exact s_0|refine below_al ?_ _|refine below_dr ?_ _|refine below_d1 ?_)|(with_reducible refine Below.setCell ?_ ?_ _;rotate_left;next => first|(simp;done)|(simp;omega)|omega))))
  (first | (go_at_call 18; refine (toWeb_calls x0 _ (H0.out.below (below_st (HB_14.out) (show Below w14.heap.size w14 _ from by repeat first|with_reducible (first|exact Below.refl _ _|exact s_0|refine below_al ?_ _|refine below_dr ?_ _|refine below_d1 ?_)|(with_reducible refine Below.setCell ?_ ?_ _;rotate_left;next => first|(simp;done)|(simp;omega)|omega)))) (by omega)).mono ?_; rintro e W0 ⟨us, rfl, ⟨F_, o_, n_, l_⟩, hb⟩; obtain ⟨v_0, G_0, rfl, p_0, rfl⟩ := Web.oopen o_; obtain ⟨D0_0, d0_0, rfl, _, _⟩ := own_slice p_0; have r_s0 := Asd.mk o_.rep; obtain ⟨s_0, s_1, s_2, s_3⟩ := hkeep.out _ (below_st (show Below w14.heap.size w14 _ from by repeat first|with_reducible (first|exact Below.refl _ _|exact s_0|refine below_al ?_ _|refine below_dr ?_ _|refine below_d1 ?_)|(with_reducible refine Below.setCell ?_ ?_ _;rotate_left;next => first|(simp;done)|(simp;omega)|omega)) hb); clear hb o_ l_ n_ p_0) | (go_at_call 19; refine (toState_calls x1 _ (H1.out.below (below_st (HB_14.out) (show Below w14.heap.size w14 _ from by repeat first|with_reducible (first|exact Below.refl _ _|exact s_0|refine below_al ?_ _|refine below_dr ?_ _|refine below_d1 ?_)|(with_reducible refine Below.setCell ?_ ?_ _;rotate_left;next => first|(simp;done)|(simp;omega)|omega)))) (by omega)).mono ?_; rintro e W1 ⟨us, rfl, ⟨F_, o_, n_, l_⟩, hb⟩; obtain ⟨v_0, G_0, v_1, G_1, rfl, p_0, p_1, rfl⟩ := State.oopen o_; obtain ⟨D1_0, d1_0, rfl, _, _⟩ := own_slice p_0; obtain ⟨D1_1, d1_1, rfl, _, _⟩ := own_slice p_1; have r_s1 := Asd.mk o_.rep; replace r_s0 := Asd.mk (r_s0.out.below (below_st (by repeat first|with_reducible (first|exact Below.refl _ _|refine below_al ?_ _|refine below_dr ?_ _|refine below_d1 ?_)|(with_reducible refine Below.setCell ?_ ?_ _;rotate_left;next => first|(simp;done)|(simp;omega)|omega)) hb)); obtain ⟨s_0, s_1, s_2, s_3⟩ := hkeep.out _ (below_st (show Below w14.heap.size w14 _ from by repeat first|with_reducible (first|exact Below.refl _ _|exact s_0|refine below_al ?_ _|refine below_dr ?_ _|refine below_d1 ?_)|(with_reducible refine Below.setCell ?_ ?_ _;rotate_left;next => first|(simp;done)|(simp;omega)|omega)) hb); clear hb o_ l_ n_ p_0 p_1) | (go_at_call 55; refine (Circle_calls x0 x1 _ (r_s0.out.below (by repeat first|with_reducible (first|exact Below.refl _ _|refine below_al ?_ _|refine below_dr ?_ _|refine below_d1 ?_)|(with_reducible refine Below.setCell ?_ ?_ _;rotate_left;next => first|(simp;done)|(simp;omega)|omega))) (r_s1.out.below (by repeat first|with_reducible (first|exact Below.refl _ _|refine below_al ?_ _|refine below_dr ?_ _|refine below_d1 ?_)|(with_reducible refine Below.setCell ?_ ?_ _;rotate_left;next => first|(simp;done)|(simp;omega)|omega))) (Web.zsm hz0.out) (Nat.lt_of_lt_of_le hg (below_st (HB_14.out) (show Below w14.heap.size w14 _ from by repeat first|with_reducible (first|exact Below.refl _ _|exact s_0|refine below_al ?_ _|refine below_dr ?_ _|refine below_d1 ?_)|(with_reducible refine Below.setCell ?_ ?_ _;rotate_left;next => first|(simp;done)|(simp;omega)|omega))).size) (cell_below (below_st (HB_14.out) (show Below w14.heap.size w14 _ from by repeat first|with_reducible (first|exact Below.refl _ _|exact s_0|refine below_al ?_ _|refine below_dr ?_ _|refine below_d1 ?_)|(with_reducible refine Below.setCell ?_ ?_ _;rotate_left;next => first|(simp;done)|(simp;omega)|omega))) ht)).mono ?_; rw [gx]; rintro e w15 ⟨v_, rfl, hM, hb⟩; have I_k0 : Asd (Iv _ w15.heap.size w15 ([strsT 9 g]) [v_]) := Asd.mk ((Iv.of_lie hM.lie).mono (Nat.le_refl _) (Nat.le_refl _)); obtain ⟨F_, o_, _, _⟩ := hM; obtain ⟨Ak0, Ck0, rfl, _, _⟩ := own_slice o_; clear o_; obtain ⟨s_0, s_1, s_2, s_3⟩ := hkeep.out _ (below_st (show Below w14.heap.size w14 _ from by repeat first|with_reducible (first|exact Below.refl _ _|exact s_0|refine below_al ?_ _|refine below_dr ?_ _|refine below_d1 ?_)|(with_reducible refine Below.setCell ?_ ?_ _;rotate_left;next => first|(simp;done)|(simp;omega)|omega)) hb); clear hb))
 have hF : Far 0 0 w14 w15 := Far.of_below s_0
 clear hkeep s_0 s_1 s_2 s_3 r_s0 r_s1
 have zs15 : w14.heap.size ≤ w15.heap.size := by have := hF.size; (try simp at this); omega
 replace c0_0 : w15.cell? ⟨w.heap.size, 0, none⟩ = some (.slice A0_0 x0.Nodes.length C0_0) := by rw [hF.cell (by first | (simp; done) | (simp; omega) | omega) (by omega)]; first | exact c0_0 | go_simp
 replace c1_0 : w15.cell? ⟨w.heap.size + 1, 0, none⟩ = some (.slice A1_0 x1.Roots.length C1_0) := by rw [hF.cell (by first | (simp; done) | (simp; omega) | omega) (by omega)]; first | exact c1_0 | go_simp
 replace c1_1 : w15.cell? ⟨w.heap.size + 1, 1, none⟩ = some (.slice A1_1 x1.Runs.length C1_1) := by rw [hF.cell (by first | (simp; done) | (simp; omega) | omega) (by omega)]; first | exact c1_1 | go_simp
 replace c2_0 : w15.cell? ⟨w4.heap.size, 0, none⟩ = some (.slice Ai0_0 x0.Nodes.length Ci0_0) := by rw [hF.cell (by first | (simp; done) | (simp; omega) | omega) (by omega)]; first | exact c2_0 | go_simp
 replace c3_0 : w15.cell? ⟨w5.heap.size, 0, none⟩ = some (.slice Ai1_0 x1.Roots.length Ci1_0) := by rw [hF.cell (by first | (simp; done) | (simp; omega) | omega) (by omega)]; first | exact c3_0 | go_simp
 replace c3_1 : w15.cell? ⟨w5.heap.size, 1, none⟩ = some (.slice Ai1_1 x1.Runs.length Ci1_1) := by rw [hF.cell (by first | (simp; done) | (simp; omega) | omega) (by omega)]; first | exact c3_1 | go_simp
 replace z0 : w.heap.size < w15.heap.size := by omega
 replace z1 : w.heap.size + 1 < w15.heap.size := by omega
 replace z2 : w4.heap.size < w15.heap.size := by omega
 replace z3 : w5.heap.size < w15.heap.size := by omega
 have HB_15 := Asd.mk (Far.trans3 (HB_14.out) hF (by omega))
 replace I_w0 := Asd.mk ((I_w0.out.below (Below.refl _ _)).far hF (by omega))
 replace I_m0 := Asd.mk ((I_m0.out.below (Below.refl _ _)).far hF (by omega))
 clear hF
 go_wp2_with fail
 refine (eqStringS_calls (g) (g) _ _ _ (reps_one (I_k0.out.reps.below (Below.refl _ _))) (reps_one (I_w0.out.reps.below (Below.refl _ _)))).mono ?_
 rintro e w16 ⟨rfl, hb⟩
 have hF := Far.of_below hb
 have zs16 : w15.heap.size ≤ w16.heap.size := by have := hF.size; (try simp at this); omega
 replace c0_0 : w16.cell? ⟨w.heap.size, 0, none⟩ = some (.slice A0_0 x0.Nodes.length C0_0) := by rw [hF.cell (by first | (simp; done) | (simp; omega) | omega) (by omega)]; first | exact c0_0 | go_simp
 replace c1_0 : w16.cell? ⟨w.heap.size + 1, 0, none⟩ = some (.slice A1_0 x1.Roots.length C1_0) := by rw [hF.cell (by first | (simp; done) | (simp; omega) | omega) (by omega)]; first | exact c1_0 | go_simp
 replace c1_1 : w16.cell? ⟨w.heap.size + 1, 1, none⟩ = some (.slice A1_1 x1.Runs.length C1_1) := by rw [hF.cell (by first | (simp; done) | (simp; omega) | omega) (by omega)]; first | exact c1_1 | go_simp
 replace c2_0 : w16.cell? ⟨w4.heap.size, 0, none⟩ = some (.slice Ai0_0 x0.Nodes.length Ci0_0) := by rw [hF.cell (by first | (simp; done) | (simp; omega) | omega) (by omega)]; first | exact c2_0 | go_simp
 replace c3_0 : w16.cell? ⟨w5.heap.size, 0, none⟩ = some (.slice Ai1_0 x1.Roots.length Ci1_0) := by rw [hF.cell (by first | (simp; done) | (simp; omega) | omega) (by omega)]; first | exact c3_0 | go_simp
 replace c3_1 : w16.cell? ⟨w5.heap.size, 1, none⟩ = some (.slice Ai1_1 x1.Runs.length Ci1_1) := by rw [hF.cell (by first | (simp; done) | (simp; omega) | omega) (by omega)]; first | exact c3_1 | go_simp
 replace z0 : w.heap.size < w16.heap.size := by omega
 replace z1 : w.heap.size + 1 < w16.heap.size := by omega
 replace z2 : w4.heap.size < w16.heap.size := by omega
 replace z3 : w5.heap.size < w16.heap.size := by omega
 have HB_16 := Asd.mk (Far.trans3 (HB_15.out) hF (by omega))
 replace I_w0 := Asd.mk ((I_w0.out.below (Below.refl _ _)).far hF (by omega))
 replace I_m0 := Asd.mk ((I_m0.out.below (Below.refl _ _)).far hF (by omega))
 replace I_k0 := Asd.mk ((I_k0.out.below (Below.refl _ _)).far hF (by omega))
 clear hF hb
 go_wp2_with fail
 refine (heldStringS_iv (g) _ _ (1) _ _ _ (by first | rfl | omega) (I_m0.out.below (Below.refl _ _)) (by omega) (by have := kg0.out; omega)).mono ?_
 rintro e w17 ⟨he, hb⟩
 have hF := Far.of_below hb
 rw [kg0.out] at he
 subst he
 have zs17 : w16.heap.size ≤ w17.heap.size := by have := hF.size; (try simp at this); omega
 replace c0_0 : w17.cell? ⟨w.heap.size, 0, none⟩ = some (.slice A0_0 x0.Nodes.length C0_0) := by rw [hF.cell (by first | (simp; done) | (simp; omega) | omega) (by omega)]; first | exact c0_0 | go_simp
 replace c1_0 : w17.cell? ⟨w.heap.size + 1, 0, none⟩ = some (.slice A1_0 x1.Roots.length C1_0) := by rw [hF.cell (by first | (simp; done) | (simp; omega) | omega) (by omega)]; first | exact c1_0 | go_simp
 replace c1_1 : w17.cell? ⟨w.heap.size + 1, 1, none⟩ = some (.slice A1_1 x1.Runs.length C1_1) := by rw [hF.cell (by first | (simp; done) | (simp; omega) | omega) (by omega)]; first | exact c1_1 | go_simp
 replace c2_0 : w17.cell? ⟨w4.heap.size, 0, none⟩ = some (.slice Ai0_0 x0.Nodes.length Ci0_0) := by rw [hF.cell (by first | (simp; done) | (simp; omega) | omega) (by omega)]; first | exact c2_0 | go_simp
 replace c3_0 : w17.cell? ⟨w5.heap.size, 0, none⟩ = some (.slice Ai1_0 x1.Roots.length Ci1_0) := by rw [hF.cell (by first | (simp; done) | (simp; omega) | omega) (by omega)]; first | exact c3_0 | go_simp
 replace c3_1 : w17.cell? ⟨w5.heap.size, 1, none⟩ = some (.slice Ai1_1 x1.Runs.length Ci1_1) := by rw [hF.cell (by first | (simp; done) | (simp; omega) | omega) (by omega)]; first | exact c3_1 | go_simp
 replace z0 : w.heap.size < w17.heap.size := by omega
 replace z1 : w.heap.size + 1 < w17.heap.size := by omega
 replace z2 : w4.heap.size < w17.heap.size := by omega
 replace z3 : w5.heap.size < w17.heap.size := by omega
 have HB_17 := Asd.mk (Far.trans3 (HB_16.out) hF (by omega))
 replace I_w0 := Asd.mk ((I_w0.out.below (Below.refl _ _)).far hF (by omega))
 replace I_m0 := Asd.mk ((I_m0.out.below (Below.refl _ _)).far hF (by omega))
 replace I_k0 := Asd.mk ((I_k0.out.below (Below.refl _ _)).far hF (by omega))
 clear hF hb
 go_wp2
 go_ret
 exact ⟨rfl, HB_17.out⟩
end Go.Proofs.YtkpkfihaihoaeaaGreatDoor.M
