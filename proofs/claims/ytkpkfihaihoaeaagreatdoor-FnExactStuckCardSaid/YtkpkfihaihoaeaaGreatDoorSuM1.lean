/- The law of Stuck, walked. -/
import Derived.Test.YtkpkfihaihoaeaaGreatDoorVsM5
import Derived.Maps.OwnSet
import Derived.Deep.RegionWith
import Derived.Deep.RegionHeld3
section
set_option linter.unusedVariables false
set_option linter.unusedSimpArgs false
namespace Go.Proofs.YtkpkfihaihoaeaaGreatDoor.M
open Go.RowKit
def trueP (q : ByteArray) : ByteArray × Value := (q, .bool true)
def setC (l : List ByteArray) : List (ByteArray × Value) := l.map trueP
theorem setC_keys (l : List ByteArray) : (setC l).map (·.1) = l := by
 unfold setC; rw [List.map_map]
 conv => rhs; rw [← List.map_id l]
 rfl
theorem lookC_setC (q : ByteArray) : ∀ (l : List ByteArray), lookC (setC l) q = if q ∈ l then some (.bool true) else none
 | [] => by simp [setC, lookC_nil]
 | x :: l => by
  have ih := lookC_setC q l
  unfold setC at ih ⊢
  rw [List.map_cons, lookC_cons, ih]
  show (if x = q then some (Value.bool true) else if q ∈ l then some (Value.bool true) else none) = _
  by_cases e : x = q
  ·subst e; rw [if_pos rfl, if_pos (List.mem_cons_self ..)]
  ·rw [if_neg e]
   by_cases h : q ∈ l
   ·rw [if_pos h, if_pos (List.mem_cons_of_mem _ h)]
   ·rw [if_neg h, if_neg (fun h2 => (List.mem_cons.1 h2).elim (fun e2 => e e2.symm) h)]
theorem putC_new {l : List ByteArray} {q : ByteArray} (h : q ∉ l) : putC (setC l) q (.bool true) = setC (l ++ [q]) := by
 unfold putC
 rw [lookC_setC, if_neg h]
 unfold setC
 rw [List.map_append]; rfl
theorem putC_old {l : List ByteArray} {q : ByteArray} (h : q ∈ l) : putC (setC l) q (.bool true) = setC l := by
 unfold putC
 rw [lookC_setC, if_pos h]
 unfold setC
 simp only [Option.isSome_some, if_true]
 rw [List.map_map]
 refine List.map_congr_left fun x _ => ?_
 show (if (trueP x).1 = q then ((trueP x).1, Value.bool true) else trueP x) = trueP x
 split <;> rfl
def dropN (l : List ByteArray) (q : ByteArray) : List ByteArray := l.filter fun x => decide (x ≠ q)
theorem delC_setC (l : List ByteArray) (q : ByteArray) : delC (setC l) q = setC (dropN l q) := by
 unfold delC setC dropN
 rw [List.filter_map]; rfl
theorem mem_dropN {l : List ByteArray} {q x : ByteArray} : x ∈ dropN l q ↔ x ∈ l ∧ x ≠ q := by
 unfold dropN; rw [List.mem_filter]; simp
theorem dropN_nodup {l : List ByteArray} (h : l.Nodup) (q : ByteArray) : (dropN l q).Nodup := h.sublist List.filter_sublist
theorem dropN_len {l : List ByteArray} {q : ByteArray} (h : q ∈ l) : (dropN l q).length < l.length := by
 unfold dropN
 rcases Nat.lt_or_ge (l.filter fun x => decide (x ≠ q)).length l.length with hl | hl
 ·exact hl
 ·have := List.length_filter_eq_length_iff.1 (Nat.le_antisymm (List.length_filter_le _ _) hl) q h
  simp at this
theorem zero_runB (w : World) : (zeroValue 4).run Tryz.prog w = .ok (.bool false) w := by kernel_rfl
theorem look_set {w : World} {b : Nat} {l : List ByteArray} (h : MapAt w b (setC l)) (q : ByteArray) : (Instr.lookup 132 (.map (some b)) (.string q) false).run Tryz.prog w = .ok (.bool (decide (q ∈ l))) w := by
 have := h.look (Pg := Tryz.prog) Tryz.underlying132 Tryz.underlying9 (zero_runB w) q false
 rw [lookC_setC] at this
 rw [this]
 by_cases hq : q ∈ l
 ·rw [if_pos hq, decide_eq_true hq]; rfl
 ·rw [if_neg hq, decide_eq_false hq]; rfl
theorem OnlyB.mfr {b : Nat} {w w' : World} (h : OnlyB b w w') : MFr [b] w w' := ⟨h.os, h.tape, h.output, Nat.le_of_eq h.size.symm, fun k _ hn => h.block k (fun e => hn (by rw [e]; simp))⟩
theorem OnlyB.upon {b B : Nat} {W w w' : World} (h : OnlyB b w w') (hb : Below B W w) (hB : B ≤ W.heap.size) (hbB : B ≤ b) : Below B W w' :=
 MFr.upon h.mfr hb hB (fun k hk => by simp at hk; omega)
section
variable {Pg : Program} {w : World} {ops : Array Oper} {rest : List Oper} {o : Oper} {a : Act} {Q : Exit → Act → World → Prop} {b r : Nat} {C L : List (ByteArray × Value)}
theorem wpMapDelIt (hg : o.guard = none) {m x : Operand} {t kt et : TypeId} (hop : o.op = Op.call { callee := Callee.builtin Builtin.delete, args := #[m, x], argTypes := #[t, kt] }) (ht : Pg.underlying t = some (.map kt et)) (hk : Pg.underlying kt = some .string) (hm : a.eval m = .map (some b)) (h : ItAt w b r C L) (hbr : b ≠ r)
  {q : ByteArray} (hx : a.eval x = .string q) (hq : ∀ p ∈ L, p.1 ≠ q) (hK : ∀ w', ItAt w' b r (delC C q) L → OnlyB b w w' → wpList Pg ops Q rest (a.put o.dst (.tuple #[])) w') : wpList Pg ops Q (o :: rest) a w := by
 refine wpList_plain hg fun K' hK' => ?_
 obtain ⟨w', hrun, r1, r2⟩ := h.delete ht hk hbr q hq o.type
 unfold Oper.wp
 simp [execOp, hop, resolve, invoke, builtin, hm, hx, hrun, Result.andThen]
 exact hK' _ _ (hK w' r1 r2)
end
end Go.Proofs.YtkpkfihaihoaeaaGreatDoor.M
end
section
set_option linter.unusedVariables false
set_option linter.unusedSimpArgs false
namespace Go.Proofs.YtkpkfihaihoaeaaGreatDoor.M
open Go.RowKit
/-- x put into a list in order, once -/
def ins1 : List ByteArray → ByteArray → List ByteArray
 | [], x => [x]
 | y :: l, x => if ltS y x then y :: ins1 l x else if y = x then y :: l else x :: y :: l
theorem mem_ins1 {x z : ByteArray} : ∀ {l : List ByteArray}, z ∈ ins1 l x ↔ z = x ∨ z ∈ l
 | [] => by simp [ins1]
 | y :: l => by
  unfold ins1
  split
  ·rw [List.mem_cons, mem_ins1, List.mem_cons]
   constructor
   ·rintro (h | h | h) <;> simp [h]
   ·rintro (h | h | h) <;> simp [h]
  ·split
   ·rename_i h1 h2
    subst h2; simp
   ·simp
theorem ins1_asc {x : ByteArray} : ∀ {l : List ByteArray}, Asc l → Asc (ins1 l x)
 | [], _ => by simp [ins1, Asc]
 | y :: l, h => by
  obtain ⟨h1, h2⟩ := List.pairwise_cons.1 h
  unfold ins1
  split
  ·rename_i hlt
   refine List.pairwise_cons.2 ⟨fun z hz => ?_, ins1_asc h2⟩
   rcases mem_ins1.1 hz with rfl | hz
   ·exact hlt
   ·exact h1 z hz
  ·rename_i hlt
   split
   ·exact h
   ·rename_i hne
    have hxy : ltS x y = true := by
     cases hh : ltS x y with
     | true => rfl
     | false => exact absurd (ltS_tri hh (by simpa using hlt)).symm hne
    refine List.pairwise_cons.2 ⟨fun z hz => ?_, h⟩
    rcases List.mem_cons.1 hz with rfl | hz
    ·exact hxy
    ·exact ltS_trans hxy (h1 z hz)
theorem asc_ext : ∀ {a b : List ByteArray}, Asc a → Asc b → (∀ x, x ∈ a ↔ x ∈ b) → a = b
 | [], [], _, _, _ => rfl
 | [], y :: b, _, _, h => by have := (h y).2 (List.mem_cons_self ..); cases this
 | x :: a, [], _, _, h => by have := (h x).1 (List.mem_cons_self ..); cases this
 | x :: a, y :: b, ha, hb, h => by
  obtain ⟨h1, h2⟩ := List.pairwise_cons.1 ha
  obtain ⟨k1, k2⟩ := List.pairwise_cons.1 hb
  have hxy : x = y := by
   rcases List.mem_cons.1 ((h x).1 (List.mem_cons_self ..)) with e | e
   ·exact e
   ·rcases List.mem_cons.1 ((h y).2 (List.mem_cons_self ..)) with e2 | e2
    ·exact e2.symm
    ·have a1 := k1 x e
     have a2 := h1 y e2
     rw [ltS_asymm a1] at a2; cases a2
  subst hxy
  congr 1
  refine asc_ext h2 k2 fun z => ?_
  constructor
  ·intro hz
   rcases List.mem_cons.1 ((h z).1 (List.mem_cons_of_mem _ hz)) with e | e
   ·subst e; have := h1 z hz; rw [ltS_irr] at this; cases this
   ·exact e
  ·intro hz
   rcases List.mem_cons.1 ((h z).2 (List.mem_cons_of_mem _ hz)) with e | e
   ·subst e; have := k1 z hz; rw [ltS_irr] at this; cases this
   ·exact e
def insS (l : List ByteArray) : List ByteArray := l.foldl ins1 []
theorem insS_aux : ∀ (l a : List ByteArray), Asc a → Asc (l.foldl ins1 a) ∧ ∀ z, z ∈ l.foldl ins1 a ↔ z ∈ l ∨ z ∈ a
 | [], a, h => ⟨h, fun z => by simp⟩
 | x :: l, a, h => by
  obtain ⟨h1, h2⟩ := insS_aux l (ins1 a x) (ins1_asc h)
  refine ⟨h1, fun z => ?_⟩
  rw [List.foldl_cons, h2, mem_ins1, List.mem_cons]
  constructor
  ·rintro (h | h | h) <;> simp [h]
  ·rintro ((h | h) | h) <;> simp [h]
theorem insS_asc (l : List ByteArray) : Asc (insS l) := (insS_aux l [] List.Pairwise.nil).1
theorem mem_insS {l : List ByteArray} {z : ByteArray} : z ∈ insS l ↔ z ∈ l := by rw [insS, (insS_aux l [] List.Pairwise.nil).2]; simp
/-- what a name waits for -/
def isOn (R : List Run) (q : ByteArray) : Bool := match runOf R q with
 | none => false
 | some x => !x.Over
def waitsRaw (W : Web) (R : List Run) (q : ByteArray) : List ByteArray := match runOf R q with
 | none => []
 | some r => if r.Over || r.Visits == 0 then [] else (stepOf W r).Asks.filter (isOn R)
def waitsL (W : Web) (R : List Run) (q : ByteArray) : List ByteArray := insS (waitsRaw W R q)
theorem waitsRaw_run {W : Web} {R : List Run} {q x : ByteArray} (h : x ∈ waitsRaw W R q) : ∃ r, runOf R x = some r ∧ r.Over = false := by
 unfold waitsRaw at h
 split at h
 ·cases h
 ·split at h
  ·cases h
  ·have := (List.mem_filter.1 h).2
   unfold isOn at this
   cases hr : runOf R x with
   | none => rw [hr] at this; cases this
   | some r => rw [hr] at this; exact ⟨r, rfl, by simpa using this⟩
theorem waits_run {W : Web} {R : List Run} {q x : ByteArray} (h : x ∈ waitsL W R q) : ∃ r, runOf R x = some r ∧ r.Over = false := waitsRaw_run (mem_insS.1 h)
theorem waitsRaw_asks {W : Web} {R : List Run} {q x : ByteArray} {r : Run} (hr : runOf R q = some r) (h : x ∈ waitsRaw W R q) : x ∈ (stepOf W r).Asks := by
 unfold waitsRaw at h
 rw [hr] at h
 simp only at h
 split at h
 ·cases h
 ·exact (List.mem_filter.1 h).1
theorem waits_len {W : Web} {R : List Run} (hw : checkWeb W = 0) (hR : Inv W R) (q : ByteArray) : (waitsRaw W R q).length ≤ 5 ∧ (waitsRaw W R q).Nodup := by
 unfold waitsRaw
 cases hr : runOf R q with
 | none => simp
 | some r =>
  simp only
  split
  ·simp
  ·have hm := hR.ok r (runOf_some hr).1
   obtain ⟨hl, he⟩ := stepIn_eq hm.at1 hm.at0
   obtain ⟨a1, a2, _⟩ := asks_ok (step_ok (act_ok hw hm.web) (List.getElem_mem hl))
   have hs : stepOf W r = (actOf W r.Name).Steps[r.At.toNat] := he
   rw [hs]
   exact ⟨Nat.le_trans (List.length_filter_le _ _) a1, a2.sublist List.filter_sublist⟩
theorem insS_perm {l ys : List ByteArray} (hp : l.Perm ys) (ha : Asc ys) : ys = insS l := asc_ext ha (insS_asc l) fun x => by rw [mem_insS, hp.mem_iff]
theorem nodup_perm_insS : ∀ {l : List ByteArray}, l.Nodup → l.Perm (insS l) := by
 intro l h
 refine (List.perm_ext_iff_of_nodup h ?_).2 (fun x => by rw [mem_insS])
 exact List.Pairwise.imp (fun h => ltS_ne h) (insS_asc l)
section
variable (wt : ByteArray → List ByteArray) (g : ByteArray)
/-- g is come to from u in just so many steps over names above g -/
def wkB : Nat → ByteArray → Bool
 | 0, _ => false
 | 1, u => (wt u).any fun x => decide (x = g)
 | n + 2, u => (wt u).any fun x => ltS g x && wkB (n + 1) x
/-- how many steps it takes, at most B; 0 for none -/
def farU : Nat → ByteArray → Nat
 | 0, _ => 0
 | n + 1, u => if farU n u = 0 then (if wkB wt g (n + 1) u then n + 1 else 0) else farU n u
end
section
variable {wt : ByteArray → List ByteArray} {g : ByteArray}
theorem farU_le : ∀ (n : Nat) (u : ByteArray), farU wt g n u ≤ n
 | 0, _ => Nat.le_refl _
 | n + 1, u => by
  have := farU_le n u
  unfold farU
  split
  ·split <;> omega
  ·omega
theorem farU_wk : ∀ {n : Nat} {u : ByteArray}, farU wt g n u ≠ 0 → wkB wt g (farU wt g n u) u = true
 | 0, _, h => absurd rfl h
 | n + 1, u, h => by
  unfold farU at h ⊢
  by_cases h0 : farU wt g n u = 0
  ·rw [if_pos h0] at h ⊢
   by_cases hw : wkB wt g (n + 1) u = true
   ·rw [if_pos hw]; exact hw
   ·rw [if_neg hw] at h; exact absurd rfl h
  ·rw [if_neg h0]; exact farU_wk h0
theorem farU_least : ∀ {n m : Nat} {u : ByteArray}, wkB wt g m u = true → m ≤ n → farU wt g n u ≠ 0 ∧ farU wt g n u ≤ m
 | 0, m, u, h, hm => by
  obtain rfl : m = 0 := by omega
  simp [wkB] at h
 | n + 1, m, u, h, hm => by
  unfold farU
  by_cases h0 : farU wt g n u = 0
  ·rw [if_pos h0]
   by_cases hmn : m ≤ n
   ·exact absurd h0 (farU_least h hmn).1
   ·obtain rfl : m = n + 1 := by omega
    rw [if_pos h]; omega
  ·rw [if_neg h0]
   refine ⟨h0, ?_⟩
   by_cases hmn : m ≤ n
   ·exact (farU_least h hmn).2
   ·have := farU_le (wt := wt) (g := g) n u; omega
theorem farU_stay {n m : Nat} {u : ByteArray} (h : farU wt g n u ≠ 0) (hm : n ≤ m) : farU wt g m u = farU wt g n u := by
  induction m with
  | zero => obtain rfl : n = 0 := by omega
            rfl
  | succ m ih =>
    by_cases e : n = m + 1
    · rw [e]
    · have := ih (by omega)
      conv => lhs; unfold farU
      rw [if_neg (by rw [this]; exact h), this]
/-- a level more -/
theorem wk_level {n : Nat} {u : ByteArray} (h0 : farU wt g (n + 1) u = 0) : wkB wt g (n + 2) u = (wt u).any fun x => ltS g x && decide (farU wt g (n + 1) x = n + 1) := by
 rw [Bool.eq_iff_iff]
 simp only [wkB, List.any_eq_true, Bool.and_eq_true, decide_eq_true_eq]
 constructor
 ·rintro ⟨x, hx, hg, hk⟩
  refine ⟨x, hx, hg, ?_⟩
  obtain ⟨f1, f2⟩ := farU_least hk (Nat.le_refl _)
  by_cases e : farU wt g (n + 1) x = n + 1
  ·exact e
  ·exfalso
   obtain ⟨m, hm⟩ : ∃ m, farU wt g (n + 1) x = m + 1 := ⟨farU wt g (n + 1) x - 1, by omega⟩
   have hk2 := farU_wk f1
   rw [hm] at hk2
   have : wkB wt g (m + 2) u = true := by
    simp only [wkB, List.any_eq_true, Bool.and_eq_true]
    exact ⟨x, hx, hg, hk2⟩
   exact absurd h0 (farU_least this (by omega)).1
 ·rintro ⟨x, hx, hg, hk⟩
  refine ⟨x, hx, hg, ?_⟩
  have := farU_wk (wt := wt) (g := g) (n := n + 1) (u := x) (by omega)
  rwa [hk] at this
end
theorem nodup_sub_len : ∀ {a b : List ByteArray}, a.Nodup → (∀ x ∈ a, x ∈ b) → a.length ≤ b.length
 | [], _, _, _ => Nat.zero_le _
 | x :: a, b, h, hs => by
  obtain ⟨h1, h2⟩ := List.nodup_cons.1 h
  have hx := hs x (List.mem_cons_self ..)
  have := nodup_sub_len (a := a) (b := b.erase x) h2 (fun y hy => (List.mem_erase_of_ne (by rintro rfl; exact h1 hy)).2 (hs y (List.mem_cons_of_mem _ hy)))
  rw [List.length_erase_of_mem hx] at this
  have hp := List.length_pos_of_mem hx
  simp only [List.length_cons]; omega
/-- a least number of steps is at most the number of names -/
theorem least_chain {wt : ByteArray → List ByteArray} {g : ByteArray} {N : List ByteArray} (hN : ∀ u, ∀ x ∈ wt u, x ∈ N) (hs : ∀ u ∈ N, True) : ∀ (n : Nat) {u : ByteArray}, u ∈ N → wkB wt g (n + 1) u = true → (∀ m, m ≤ n → wkB wt g m u = false) →
  ∃ l : List ByteArray, l.length = n + 1 ∧ l.Nodup ∧ ∀ x ∈ l, x ∈ N ∧ ∃ m, m ≤ n + 1 ∧ wkB wt g m x = true
 | 0, u, hu, hk, _ => ⟨[u], rfl, by simp, fun x hx => by simp at hx; subst hx; exact ⟨hu, 1, Nat.le_refl _, hk⟩⟩
 | n + 1, u, hu, hk, hl => by
  have hk' := hk
  simp only [wkB, List.any_eq_true, Bool.and_eq_true] at hk'
  obtain ⟨x, hx, hg, hkx⟩ := hk'
  have hlx : ∀ m, m ≤ n → wkB wt g m x = false := by
   intro m hm
   cases hq : wkB wt g m x with
   | false => rfl
   | true =>
    cases m with
    | zero => simp [wkB] at hq
    | succ m =>
     have : wkB wt g (m + 2) u = true := by
      simp only [wkB, List.any_eq_true, Bool.and_eq_true]
      exact ⟨x, hx, hg, hq⟩
     rw [hl (m + 2) (by omega)] at this; cases this
  obtain ⟨l, h1, h2, h3⟩ := least_chain hN hs n (hN u x hx) hkx hlx
  refine ⟨u :: l, by simp [h1], List.nodup_cons.2 ⟨fun h => ?_, h2⟩, fun y hy => ?_⟩
  ·obtain ⟨_, m, hm, hq⟩ := h3 u h
   rw [hl m hm] at hq; cases hq
  ·rcases List.mem_cons.1 hy with rfl | hy
   ·exact ⟨hu, n + 2, Nat.le_refl _, hk⟩
   ·obtain ⟨a, m, hm, hq⟩ := h3 y hy
    exact ⟨a, m, by omega, hq⟩
theorem farU_all {wt : ByteArray → List ByteArray} {g : ByteArray} {N : List ByteArray} (hN : ∀ u, ∀ x ∈ wt u, x ∈ N) {u : ByteArray} (hu : u ∈ N) {m : Nat} (hm : wkB wt g m u = true) : farU wt g N.length u ≠ 0 ∧ farU wt g N.length u ≤ m := by
 -- the least m
 have key : ∀ m, wkB wt g m u = true → ∃ k, k ≤ m ∧ wkB wt g k u = true ∧ ∀ j, j < k → wkB wt g j u = false := by
  intro m
  induction m using Nat.strongRecOn with
  | ind m ih =>
   intro hm
   by_cases h : ∃ j, j < m ∧ wkB wt g j u = true
   ·obtain ⟨j, hj, hjk⟩ := h
    obtain ⟨k, a, b, c⟩ := ih j hj hjk
    exact ⟨k, by omega, b, c⟩
   ·exact ⟨m, Nat.le_refl _, hm, fun j hj => by
     cases hq : wkB wt g j u with
     | false => rfl
     | true => exact absurd ⟨j, hj, hq⟩ h⟩
 obtain ⟨k, hkm, hk, hleast⟩ := key m hm
 have hkN : k ≤ N.length := by
  cases k with
  | zero => exact Nat.zero_le _
  | succ k =>
   obtain ⟨l, h1, h2, h3⟩ := least_chain hN (fun _ _ => trivial) k hu hk (fun j hj => hleast j (by omega))
   rw [← h1]
   exact nodup_sub_len h2 (fun x hx => (h3 x hx).1)
 obtain ⟨f1, f2⟩ := farU_least hk hkN
 exact ⟨f1, by omega⟩
/-- the way on from a name, so many steps from g -/
def pathU (wt : ByteArray → List ByteArray) (g : ByteArray) (far : ByteArray → Nat) : Nat → ByteArray → List ByteArray
 | 0, _ => []
 | 1, _ => []
 | n + 2, u => match (wt u).find? (fun x => ltS g x && decide (far x = n + 1)) with
  | none => []
  | some x => x :: pathU wt g far (n + 1) x
theorem wk_find {wt : ByteArray → List ByteArray} {g : ByteArray} {B n : Nat} {u : ByteArray} (h : farU wt g B u = n + 2) : ∃ x, (wt u).find? (fun x => ltS g x && decide (farU wt g B x = n + 1)) = some x ∧ x ∈ wt u ∧ farU wt g B x = n + 1 := by
 have hk := farU_wk (wt := wt) (g := g) (n := B) (u := u) (by omega)
 rw [h] at hk
 simp only [wkB, List.any_eq_true, Bool.and_eq_true] at hk
 obtain ⟨x, hx, hg, hkx⟩ := hk
 have hB := farU_le (wt := wt) (g := g) B u
 obtain ⟨f1, f2⟩ := farU_least hkx (show n + 1 ≤ B by omega)
 have hx2 : farU wt g B x = n + 1 := by
  by_cases e : farU wt g B x = n + 1
  ·exact e
  ·exfalso
   obtain ⟨m, hm⟩ : ∃ m, farU wt g B x = m + 1 := ⟨farU wt g B x - 1, by omega⟩
   have hk2 := farU_wk f1
   rw [hm] at hk2
   have : wkB wt g (m + 2) u = true := by
    simp only [wkB, List.any_eq_true, Bool.and_eq_true]
    exact ⟨x, hx, hg, hk2⟩
   have := (farU_least this (show m + 2 ≤ B by omega)).2
   omega
 cases hf : (wt u).find? (fun x => ltS g x && decide (farU wt g B x = n + 1)) with
 | none =>
  have := List.find?_eq_none.1 hf x hx
  simp [hg, hx2] at this
 | some y =>
  have h1 := List.find?_some hf
  simp only [Bool.and_eq_true, decide_eq_true_eq] at h1
  exact ⟨y, rfl, List.mem_of_find?_eq_some hf, h1.2⟩
theorem pathU_length {wt : ByteArray → List ByteArray} {g : ByteArray} {B : Nat} : ∀ {n : Nat} {u : ByteArray}, farU wt g B u = n + 1 → (pathU wt g (farU wt g B) (n + 1) u).length = n
 | 0, _, _ => rfl
 | n + 1, u, h => by
  obtain ⟨x, hf, _, hx⟩ := wk_find h
  unfold pathU
  rw [hf]
  simp [pathU_length hx]
/-- the best circle so far -/
def circStep (wt : ByteArray → List ByteArray) (B : Nat) (best : List ByteArray) (v : ByteArray) : List ByteArray :=
 if farU wt v B v = 0 ∨ (0 < best.length ∧ best.length ≤ farU wt v B v) then best else v :: pathU wt v (farU wt v B) (farU wt v B v) v
def circleU (wt : ByteArray → List ByteArray) (N : List ByteArray) : List ByteArray := N.foldl (circStep wt N.length) []
def circleL (W : Web) (R : List Run) : List ByteArray := circleU (waitsL W R) (R.map Run.Name)
end Go.Proofs.YtkpkfihaihoaeaaGreatDoor.M
end
section
set_option linter.unusedVariables false
set_option linter.unusedSimpArgs false
namespace Go.Proofs.YtkpkfihaihoaeaaGreatDoor.M
open Go.RowKit
def ltTo (l : List ByteArray) (x : ByteArray) (k : Nat) : Prop := ∀ (i : Nat) (h : i < l.length), i < k → ltS l[i] x = true
theorem ltTo_zero (l : List ByteArray) (x : ByteArray) : ltTo l x 0 := fun _ _ h => by omega
theorem ltTo_succ {l : List ByteArray} {x : ByteArray} {k : Nat} (h : ltTo l x k) (hk : k < l.length) (hx : ltS l[k] x = true) : ltTo l x (k + 1) := by
 intro i hi hik
 by_cases e : i = k
 ·subst e; exact hx
 ·exact h i hi (by omega)
theorem ltTo_tail {y : ByteArray} {l : List ByteArray} {x : ByteArray} {k : Nat} (h : ltTo (y :: l) x (k + 1)) : ltS y x = true ∧ ltTo l x k :=
 ⟨h 0 (by simp) (by omega), fun i hi hik => by have := h (i + 1) (by simpa using hi) (by omega); simpa using this⟩
theorem ins1_at : ∀ {l : List ByteArray} {x : ByteArray} {k : Nat}, ltTo l x k → k ≤ l.length → (∀ h : k < l.length, ltS l[k] x = false ∧ l[k] ≠ x) → ins1 l x = l.take k ++ x :: l.drop k
 | [], x, k, _, hk, _ => by
  obtain rfl : k = 0 := by simpa using hk
  rfl
 | y :: l, x, 0, _, _, hn => by
  obtain ⟨h1, h2⟩ := hn (by simp)
  simp only [List.getElem_cons_zero] at h1 h2
  unfold ins1
  rw [h1, if_neg (by decide), if_neg h2]; rfl
 | y :: l, x, k + 1, h, hk, hn => by
  obtain ⟨h1, h2⟩ := ltTo_tail h
  unfold ins1
  rw [h1, if_pos rfl, ins1_at h2 (by simpa using hk) (fun hk2 => by have := hn (by simpa using hk2); simpa using this)]
  rfl
theorem ins1_has : ∀ {l : List ByteArray} {x : ByteArray} {k : Nat}, ltTo l x k → ∀ (hk : k < l.length), l[k] = x → ins1 l x = l
 | [], x, k, _, hk, _ => by simp at hk
 | y :: l, x, 0, _, _, he => by
  simp only [List.getElem_cons_zero] at he
  subst he
  unfold ins1
  rw [ltS_irr, if_neg (by decide), if_pos rfl]
 | y :: l, x, k + 1, h, hk, he => by
  obtain ⟨h1, h2⟩ := ltTo_tail h
  unfold ins1
  rw [h1, if_pos rfl, ins1_has h2 (by simpa using hk) (by simpa using he)]
theorem ins1_len (x : ByteArray) : ∀ (l : List ByteArray), (ins1 l x).length ≤ l.length + 1
 | [] => by simp [ins1]
 | y :: l => by
  have := ins1_len x l
  unfold ins1
  split
  ·simp only [List.length_cons]; omega
  ·split <;> simp
theorem addr_add_add (a : Addr) (m j : Nat) : (a.add m).add j = a.add (m + j) := by
 unfold Addr.add
 by_cases hm : m = 0
 ·subst hm; simp
 ·by_cases hj : j = 0
  ·subst hj; simp
  ·simp [hm, hj, show m + j ≠ 0 by omega, Nat.add_assoc]
theorem rep_drop {w : World} {t : Nat} {l : List ByteArray} {A : Option Addr} {c : Nat} (h : rep w (strsT t l) (.slice A l.length c)) {k : Nat} (hk : k ≤ l.length) : rep w (strsT t (l.drop k)) (.slice (if c = k then A else A.map (·.add (k * 1))) (l.length - k) (c - k)) := by
 simp only [strsT, tl, rep] at h ⊢
 obtain ⟨h0, h1, A', c', vs, he, hc, hr, hcl⟩ := h
 cases he
 refine ⟨by rw [length_flatMap strC 1 (fun _ => rfl)], by simp; omega, (if c = k then A else A.map (·.add (k * 1))), c - k, vs.drop k, by rw [List.length_drop], by rw [List.length_drop]; omega, ?_, fun hn => ?_⟩
 ·have := reps_drop k hr
  rw [show k = k * 1 by omega, drop_flatMap strC 1 (fun _ => rfl), Nat.mul_one] at this
  exact this
 ·simp only [List.length_drop] at hn
  obtain ⟨a, rfl, hu⟩ := hcl (by omega)
  refine ⟨a.add (k * 1), by rw [if_neg (by omega)]; rfl, fun j u hj => ?_⟩
  rw [List.getElem?_drop] at hj
  have := hu _ _ hj
  rw [Nat.mul_one, addr_add_add]
  exact this
theorem step_appStrs {w wr : World} {lo : Nat} {ops : Array Oper} {o : Oper} {a : Act} {Q : Exit → Act → World → Prop} {xs ys : List ByteArray} {v : Value} {K : Act → World → Prop} {E : Prop} (hgd : o.guard = none) {s x : Operand} (ho : o.op = .call { callee := .builtin .append, args := #[s, x], argTypes := #[25, 25] }) (hs : a.eval s = v) (hlo : lo ≤ wr.heap.size) (hown : Lie lo wr (strsT 9 xs) v) (hb : Below wr.heap.size wr w)
  {A : Option Addr} {c t : Nat} (hx : a.eval x = .slice A ys.length c) (hy : rep w (strsT t ys) (.slice A ys.length c)) (hn : xs.length + ys.length ≤ 1000000)
  (h : ∀ v' w', Lie lo w' (strsT 9 (xs ++ ys)) v' → Far lo wr.heap.size w w' → K (a.put o.dst v') w') : if Region.wanted o (yielded ops a.tmps) = true then Oper.wp Tryz.prog o a w K Q else E := by
 obtain ⟨h1, h2⟩ := strs_cells hy
 exact step_appL hgd ho Tryz.underlying25 info_str rfl (by decide) hs hlo hown hb hx h1 (by simp) (Lies.flat h2 (strC_flat _) _ (Below.refl _ _)) (by simp [maxLen]; omega) (by omega) (fun v' w' h1 h2 => h v' w' (by rw [strsT_append]; exact h1) h2)
def PutP (l : List ByteArray) (v : Value) (w : World) (e : Ending) (w' : World) : Prop := ∃ v', e = .returned v' ∧ Below w.heap.size w w' ∧ (v' = v ∨ Made w w' (strsT 9 l) v')
set_option maxRecDepth 100000 in
set_option maxHeartbeats 4000000 in
theorem l6Put_calls {t : Nat} (l : List ByteArray) (x : ByteArray) (v : Value) (w : World) (h : rep w (strsT t l) v) (hl : l.length ≤ 100000) :
  Calls Tryz.prog 106 #[v, .string x] w fun e w' => ∃ v', e = .returned v' ∧ Below w.heap.size w w' ∧ ((v' = v ∧ ins1 l x = l) ∨ Made w w' (strsT 9 (ins1 l x)) v') := by
 obtain ⟨A, c, rfl, hc, _⟩ := rep_len h
 replace h := Asd.mk h
 go_enter Tryz.func106, Tryz.ntmps106
 go_wp2
 go_loop [5] (fun i => ∃ k : Nat, k ≤ l.length ∧ i = .int .i64 k ∧ ltTo l x k) (fun i => l.length - (intOf i).toNat)
 case atStart => exact ⟨0, by omega, rfl, ltTo_zero _ _⟩
 case round =>
  obtain ⟨k, hk, rfl, hA⟩ := hrel
  by_cases hlt : k < l.length
  ·obtain ⟨a, c', he, hcell⟩ := str_elem h.out hlt
   cases he
   obtain ⟨y, hy⟩ : ∃ y, l[k] = y := ⟨_, rfl⟩
   rw [hy] at hcell
   by_cases hx : ltS y x = true
   ·have hA2 := Asd.mk (ltTo_succ hA hlt (by rw [hy]; exact hx))
    have hx2 : Op.bytesLess y.toList x.toList = true := hx
    replace hx := Asd.mk hx
    replace hA := Asd.mk hA
    replace hy := Asd.mk hy
    go_wp2
    go_round
    case rel => exact ⟨k + 1, by omega, by go_num, hA2.out⟩
    case measure => simp [intOf]; omega
   ·have hx2 : Op.bytesLess y.toList x.toList = false := Bool.eq_false_iff.2 hx
    by_cases he : y = x
    ·have e1 := Asd.mk (ins1_has hA hlt (by rw [hy]; exact he))
     subst he
     have hy2 : (y.toList == y.toList) = true := by simp
     replace hx := Asd.mk hx
     replace hA := Asd.mk hA
     replace hy := Asd.mk hy
     go_wp2
     go_ret
     exact ⟨_, rfl, by repeat first|with_reducible (first|exact Below.refl _ _|exact Below.refl _ _|refine below_al ?_ _|refine below_dr ?_ _|refine below_d1 ?_)|(with_reducible refine Below.setCell ?_ ?_ _;rotate_left;next => first|(simp;done)|(simp;omega)|omega), .inl ⟨rfl, e1.out⟩⟩
    ·have e1 := Asd.mk (ins1_at hA hk (fun h => by rw [hy]; exact ⟨Bool.eq_false_iff.2 hx, he⟩))
     have he2 : (y.toList == x.toList) = false := by rw [Bool.eq_false_iff]; exact fun h => he ((ba_eq _ _).1 h)
     replace hx := Asd.mk hx
     replace hA := Asd.mk hA
     replace hy := Asd.mk hy
     replace he := Asd.mk he
     go_upto_region 6 with (fail)
     obtain ⟨ys, hys⟩ : ∃ ys, l.take k = ys := ⟨_, rfl⟩
     obtain ⟨zs, hzs⟩ : ∃ zs, l.drop k = zs := ⟨_, rfl⟩
     have hyl := Asd.mk (show ys.length = k by rw [← hys, List.length_take]; omega)
     have hzl := Asd.mk (show zs.length = l.length - k by rw [← hzs, List.length_drop])
     rw [hys, hzs] at e1
     have hry := Asd.mk (show rep w (strsT t ys) (.slice (some a) ys.length c) by rw [hyl.out, ← hys]; exact rep_take h.out (fun _ => rfl) hk)
     have hrz := Asd.mk (show rep w (strsT t zs) (.slice (if c = k then (some a) else ((some a) : Option Addr).map (·.add (k * 1))) zs.length (c - k)) by rw [hzl.out, ← hzs]; exact rep_drop h.out hk)
     clear hys hzs
     go_wp2_with (at_builtin; refine appNew rfl rfl rfl rfl (by rw [hyl.out]; rfl) hry.out (by rw [hyl.out]; omega) ?_)
     intro v1 w1 hL1 hb1 hz1
     obtain ⟨B1, d1, rfl, _, _⟩ := hL1.slice
     replace hL1 := Asd.mk hL1
     replace hb1 := Asd.mk hb1
     go_upto_region 7 with (fail)
     refine wp_region_held_drew (S := fun Z => True) (by kernel_rfl) trivial (fun hHeld => ?_)
     (((refine wH 0 (v:=?_) rfl (by kernel_rfl) (fun _ _ _ h => h) (by rfl) ?_ (by assumption) ?_;rotate_left;next => ((intro X hX;(try dsimp only at hX);go_simp);try with_reducible rfl));try simp only [Act.put,List.getElem_toArray,List.getElem_cons_succ,List.getElem_cons_zero,List.setIfInBounds_toArray,List.set_cons_zero,List.set_cons_succ]); ((refine wH 1 (v:=?_) rfl (by kernel_rfl) (fun _ _ _ h => h) (by rfl) ?_ (by assumption) ?_;rotate_left;next => ((intro X hX;(try dsimp only at hX);go_simp);try with_reducible rfl));try simp only [Act.put,List.getElem_toArray,List.getElem_cons_succ,List.getElem_cons_zero,List.setIfInBounds_toArray,List.set_cons_zero,List.set_cons_succ]); ((refine wH 4 (v:=?_) rfl (by kernel_rfl) (fun _ _ _ h => h) (by rfl) ?_ (by assumption) ?_;rotate_left;next => ((intro X hX;(try dsimp only at hX);go_simp);try with_reducible rfl));try simp only [Act.put,List.getElem_toArray,List.getElem_cons_succ,List.getElem_cons_zero,List.setIfInBounds_toArray,List.set_cons_zero,List.set_cons_succ]); ((refine wH 5 (v:=?_) rfl (by kernel_rfl) (fun _ _ _ h => h) (by rfl) ?_ (by assumption) ?_;rotate_left;next => ((intro X hX;(try dsimp only at hX);go_simp);try with_reducible rfl));try simp only [Act.put,List.getElem_toArray,List.getElem_cons_succ,List.getElem_cons_zero,List.setIfInBounds_toArray,List.set_cons_zero,List.set_cons_succ]); ((refine wH 6 (v:=?_) rfl (by kernel_rfl) (fun _ _ _ h => h) (by rfl) ?_ (by assumption) ?_;rotate_left;next => ((intro X hX;(try dsimp only at hX);go_simp);try with_reducible rfl));try simp only [Act.put,List.getElem_toArray,List.getElem_cons_succ,List.getElem_cons_zero,List.setIfInBounds_toArray,List.set_cons_zero,List.set_cons_succ]))
     (refine wpAnyH_ready (rs := [2]) (by kernel_rfl) (by simp) ?_; refine AllReadyH.cons rfl (fun K hK => ?_) AllReadyH.nil)
     go_simp
     refine hK.out _ _ trivial (fun hHeld => ?_)
     clear hK K
     (try simp only [Act.put, List.setIfInBounds_toArray, List.set_cons_zero, List.set_cons_succ])
     (refine wpAnyH_ready (rs := [3]) (by kernel_rfl) (by simp) ?_; refine AllReadyH.cons rfl (fun K hK => ?_) AllReadyH.nil)
     refine step_appStr (by rfl) (by rfl) (by rfl) (lo := w.heap.size) (wr := w1) hb1.out.size hL1.out (show Below w1.heap.size w1 (w1.drew.alloc (.cells #[.string x] 9)) from by repeat first|with_reducible (first|exact Below.refl _ _|exact Below.refl _ _|refine below_al ?_ _|refine below_dr ?_ _|refine below_d1 ?_)|(with_reducible refine Below.setCell ?_ ?_ _;rotate_left;next => first|(simp;done)|(simp;omega)|omega)) (by rfl) (show (w1.drew.alloc (.cells #[.string x] 9)).heap[w1.heap.size]? = _ from heap_alloc_new w1.drew _) (by rw [hyl.out]; omega) ?_
     intro v3 w3 hL3 hF3
     obtain ⟨B3, d3, rfl, _, _⟩ := hL3.slice
     have hb3 := Asd.mk (Far.trans (show Below w.heap.size w _ from by repeat first|with_reducible (first|exact Below.refl _ _|exact hb1.out|refine below_al ?_ _|refine below_dr ?_ _|refine below_d1 ?_)|(with_reducible refine Below.setCell ?_ ?_ _;rotate_left;next => first|(simp;done)|(simp;omega)|omega)) hF3 (Nat.le_refl _) (by have := hb1.out.size; simp; omega))
     replace hL3 := Asd.mk hL3
     clear hF3
     refine hK.out _ _ trivial (fun hHeld => ?_)
     clear hK K
     (try simp only [Act.put, List.setIfInBounds_toArray, List.set_cons_zero, List.set_cons_succ])
     (refine wpAnyH_ready (rs := [7]) (by kernel_rfl) (by simp) ?_; refine AllReadyH.cons rfl (fun K hK => ?_) AllReadyH.nil)
     refine step_appStrs (by rfl) (by rfl) (by rfl) (lo := w.heap.size) (wr := w3) hb3.out.size hL3.out (Below.refl _ _) (by rw [hzl.out]; first | rfl | (simp; done) | (simp; rfl)) (hrz.out.below hb3.out) (by rw [hzl.out, List.length_append, hyl.out]; simp; omega) ?_
     intro v4 w4 hL4 hF4
     obtain ⟨B4, d4, rfl, _, _⟩ := hL4.slice
     obtain ⟨n4, hn4⟩ : ∃ n, (ys ++ [x] ++ zs).length = n := ⟨_, rfl⟩
     rw [hn4] at hL4 ⊢
     clear hn4
     have e9 := Asd.mk (show ins1 l x = ys ++ [x] ++ zs by rw [e1.out]; simp)
     have hb4 := Asd.mk (Far.trans hb3.out hF4 (Nat.le_refl _) hb3.out.size)
     replace hL4 := Asd.mk hL4
     clear hF4
     refine hK.out _ _ trivial (fun hHeld => ?_)
     clear hK K
     (((refine wH 8 (v:=?_) rfl (by kernel_rfl) (fun _ _ _ h => h) (by rfl) ?_ (by assumption) ?_;rotate_left;next => ((intro X hX;(try dsimp only at hX);go_simp);try with_reducible rfl));try simp only [Act.put,List.getElem_toArray,List.getElem_cons_succ,List.getElem_cons_zero,List.setIfInBounds_toArray,List.set_cons_zero,List.set_cons_succ]))
     refine wpAnyH_done (by kernel_rfl) ?_ _
     go_wp2
     all_goals
      go_ret
      refine ⟨_, rfl, hb4.out, .inr ?_⟩
      rw [e9.out]
      exact Lie.made hL4.out
  ·obtain rfl : k = l.length := by omega
   have e1 := Asd.mk (ins1_at hA hk (fun h => absurd h hlt))
   replace hA := Asd.mk hA
   go_upto_region 6 with (fail)
   obtain ⟨ys, hys⟩ : ∃ ys, l.take l.length = ys := ⟨_, rfl⟩
   obtain ⟨zs, hzs⟩ : ∃ zs, l.drop l.length = zs := ⟨_, rfl⟩
   have hyl := Asd.mk (show ys.length = l.length by rw [← hys, List.length_take]; omega)
   have hzl := Asd.mk (show zs.length = l.length - l.length by rw [← hzs, List.length_drop])
   rw [hys, hzs] at e1
   have hry := Asd.mk (show rep w (strsT t ys) (.slice A ys.length c) by rw [hyl.out, ← hys]; exact rep_take h.out (fun _ => rfl) hk)
   have hrz := Asd.mk (show rep w (strsT t zs) (.slice (if c = l.length then A else (A : Option Addr).map (·.add (l.length * 1))) zs.length (c - l.length)) by rw [hzl.out, ← hzs]; exact rep_drop h.out hk)
   clear hys hzs
   go_wp2_with (at_builtin; refine appNew rfl rfl rfl rfl (by rw [hyl.out]; rfl) hry.out (by rw [hyl.out]; omega) ?_)
   intro v1 w1 hL1 hb1 hz1
   obtain ⟨B1, d1, rfl, _, _⟩ := hL1.slice
   replace hL1 := Asd.mk hL1
   replace hb1 := Asd.mk hb1
   go_upto_region 7 with (fail)
   refine wp_region_held_drew (S := fun Z => True) (by kernel_rfl) trivial (fun hHeld => ?_)
   (((refine wH 0 (v:=?_) rfl (by kernel_rfl) (fun _ _ _ h => h) (by rfl) ?_ (by assumption) ?_;rotate_left;next => ((intro X hX;(try dsimp only at hX);go_simp);try with_reducible rfl));try simp only [Act.put,List.getElem_toArray,List.getElem_cons_succ,List.getElem_cons_zero,List.setIfInBounds_toArray,List.set_cons_zero,List.set_cons_succ]); ((refine wH 1 (v:=?_) rfl (by kernel_rfl) (fun _ _ _ h => h) (by rfl) ?_ (by assumption) ?_;rotate_left;next => ((intro X hX;(try dsimp only at hX);go_simp);try with_reducible rfl));try simp only [Act.put,List.getElem_toArray,List.getElem_cons_succ,List.getElem_cons_zero,List.setIfInBounds_toArray,List.set_cons_zero,List.set_cons_succ]); ((refine wH 4 (v:=?_) rfl (by kernel_rfl) (fun _ _ _ h => h) (by rfl) ?_ (by assumption) ?_;rotate_left;next => ((intro X hX;(try dsimp only at hX);go_simp);try with_reducible rfl));try simp only [Act.put,List.getElem_toArray,List.getElem_cons_succ,List.getElem_cons_zero,List.setIfInBounds_toArray,List.set_cons_zero,List.set_cons_succ]); ((refine wH 5 (v:=?_) rfl (by kernel_rfl) (fun _ _ _ h => h) (by rfl) ?_ (by assumption) ?_;rotate_left;next => ((intro X hX;(try dsimp only at hX);go_simp);try with_reducible rfl));try simp only [Act.put,List.getElem_toArray,List.getElem_cons_succ,List.getElem_cons_zero,List.setIfInBounds_toArray,List.set_cons_zero,List.set_cons_succ]); ((refine wH 6 (v:=?_) rfl (by kernel_rfl) (fun _ _ _ h => h) (by rfl) ?_ (by assumption) ?_;rotate_left;next => ((intro X hX;(try dsimp only at hX);go_simp);try with_reducible rfl));try simp only [Act.put,List.getElem_toArray,List.getElem_cons_succ,List.getElem_cons_zero,List.setIfInBounds_toArray,List.set_cons_zero,List.set_cons_succ]))
   (refine wpAnyH_ready (rs := [2]) (by kernel_rfl) (by simp) ?_; refine AllReadyH.cons rfl (fun K hK => ?_) AllReadyH.nil)
   go_simp
   refine hK.out _ _ trivial (fun hHeld => ?_)
   clear hK K
   (try simp only [Act.put, List.setIfInBounds_toArray, List.set_cons_zero, List.set_cons_succ])
   (refine wpAnyH_ready (rs := [3]) (by kernel_rfl) (by simp) ?_; refine AllReadyH.cons rfl (fun K hK => ?_) AllReadyH.nil)
   refine step_appStr (by rfl) (by rfl) (by rfl) (lo := w.heap.size) (wr := w1) hb1.out.size hL1.out (show Below w1.heap.size w1 (w1.drew.alloc (.cells #[.string x] 9)) from by repeat first|with_reducible (first|exact Below.refl _ _|exact Below.refl _ _|refine below_al ?_ _|refine below_dr ?_ _|refine below_d1 ?_)|(with_reducible refine Below.setCell ?_ ?_ _;rotate_left;next => first|(simp;done)|(simp;omega)|omega)) (by rfl) (show (w1.drew.alloc (.cells #[.string x] 9)).heap[w1.heap.size]? = _ from heap_alloc_new w1.drew _) (by rw [hyl.out]; omega) ?_
   intro v3 w3 hL3 hF3
   obtain ⟨B3, d3, rfl, _, _⟩ := hL3.slice
   have hb3 := Asd.mk (Far.trans (show Below w.heap.size w _ from by repeat first|with_reducible (first|exact Below.refl _ _|exact hb1.out|refine below_al ?_ _|refine below_dr ?_ _|refine below_d1 ?_)|(with_reducible refine Below.setCell ?_ ?_ _;rotate_left;next => first|(simp;done)|(simp;omega)|omega)) hF3 (Nat.le_refl _) (by have := hb1.out.size; simp; omega))
   replace hL3 := Asd.mk hL3
   clear hF3
   refine hK.out _ _ trivial (fun hHeld => ?_)
   clear hK K
   (try simp only [Act.put, List.setIfInBounds_toArray, List.set_cons_zero, List.set_cons_succ])
   (refine wpAnyH_ready (rs := [7]) (by kernel_rfl) (by simp) ?_; refine AllReadyH.cons rfl (fun K hK => ?_) AllReadyH.nil)
   refine step_appStrs (by rfl) (by rfl) (by rfl) (lo := w.heap.size) (wr := w3) hb3.out.size hL3.out (Below.refl _ _) (by rw [hzl.out]; first | rfl | (simp; done) | (simp; rfl)) (hrz.out.below hb3.out) (by rw [hzl.out, List.length_append, hyl.out]; simp; omega) ?_
   intro v4 w4 hL4 hF4
   obtain ⟨B4, d4, rfl, _, _⟩ := hL4.slice
   obtain ⟨n4, hn4⟩ : ∃ n, (ys ++ [x] ++ zs).length = n := ⟨_, rfl⟩
   rw [hn4] at hL4 ⊢
   clear hn4
   have e9 := Asd.mk (show ins1 l x = ys ++ [x] ++ zs by rw [e1.out]; simp)
   have hb4 := Asd.mk (Far.trans hb3.out hF4 (Nat.le_refl _) hb3.out.size)
   replace hL4 := Asd.mk hL4
   clear hF4
   refine hK.out _ _ trivial (fun hHeld => ?_)
   clear hK K
   (((refine wH 8 (v:=?_) rfl (by kernel_rfl) (fun _ _ _ h => h) (by rfl) ?_ (by assumption) ?_;rotate_left;next => ((intro X hX;(try dsimp only at hX);go_simp);try with_reducible rfl));try simp only [Act.put,List.getElem_toArray,List.getElem_cons_succ,List.getElem_cons_zero,List.setIfInBounds_toArray,List.set_cons_zero,List.set_cons_succ]))
   refine wpAnyH_done (by kernel_rfl) ?_ _
   go_wp2
   all_goals
    go_ret
    refine ⟨_, rfl, hb4.out, .inr ?_⟩
    rw [e9.out]
    exact Lie.made hL4.out
end Go.Proofs.YtkpkfihaihoaeaaGreatDoor.M
end
section
set_option linter.unusedVariables false
set_option linter.unusedSimpArgs false
namespace Go.Proofs.YtkpkfihaihoaeaaGreatDoor.M
open Go.RowKit
section
variable (wt : ByteArray → List ByteArray)
inductive TC : ByteArray → ByteArray → Prop where
 | base {q x : ByteArray} : x ∈ wt q → TC q x
 | step {q y x : ByteArray} : TC q y → x ∈ wt y → TC q x
def growU (l : List ByteArray) : List ByteArray := (l.flatMap wt).foldl ins1 l
def reachF : Nat → List ByteArray → List ByteArray
 | 0, l => l
 | n + 1, l => if (growU wt l).length = l.length then l else reachF n (growU wt l)
def reachL (N : List ByteArray) (q : ByteArray) : List ByteArray := reachF wt N.length (wt q)
def stuckU (N : List ByteArray) (q : ByteArray) : Bool := (reachL wt N q ++ [q]).any (fun y => decide (y ∈ reachL wt N y))
end
section
variable {wt : ByteArray → List ByteArray} {N : List ByteArray}
theorem TC.trans {a b : ByteArray} (h : TC wt a b) {c : ByteArray} (k : TC wt b c) : TC wt a c := by
 induction k with
 | base h1 => exact .step h h1
 | step _ h1 ih => exact .step ih h1
theorem TC.head {a b : ByteArray} (h : TC wt a b) : ∃ x ∈ wt a, x = b ∨ TC wt x b := by
 induction h with
 | base h1 => exact ⟨_, h1, .inl rfl⟩
 | step _ h1 ih =>
  obtain ⟨x, hx, h2⟩ := ih
  rcases h2 with rfl | h2
  ·exact ⟨_, hx, .inr (.base h1)⟩
  ·exact ⟨_, hx, .inr (.step h2 h1)⟩
theorem TC.last {a b : ByteArray} (h : TC wt a b) : ∃ y, b ∈ wt y := by
 cases h with
 | base h1 => exact ⟨_, h1⟩
 | step _ h1 => exact ⟨_, h1⟩
theorem nodup_full {a b : List ByteArray} (ha : a.Nodup) (hs : ∀ x ∈ a, x ∈ b) (hl : b.length ≤ a.length) : ∀ x ∈ b, x ∈ a := by
 intro x hx
 refine Classical.byContradiction fun hn => ?_
 have := nodup_sub_len (a := x :: a) (b := b) (List.nodup_cons.2 ⟨hn, ha⟩) (fun y hy => by
  rcases List.mem_cons.1 hy with rfl | hy
  ·exact hx
  ·exact hs y hy)
 simp only [List.length_cons] at this; omega
theorem Asc.nodup {l : List ByteArray} (h : Asc l) : l.Nodup := List.Pairwise.imp (fun h => ltS_ne h) h
theorem growU_asc {l : List ByteArray} (h : Asc l) : Asc (growU wt l) := (insS_aux _ _ h).1
theorem mem_growU {l : List ByteArray} (h : Asc l) {x : ByteArray} : x ∈ growU wt l ↔ (∃ y ∈ l, x ∈ wt y) ∨ x ∈ l := by
 unfold growU
 rw [(insS_aux _ _ h).2, List.mem_flatMap]
theorem reachF_asc : ∀ (n : Nat) {l : List ByteArray}, Asc l → Asc (reachF wt n l)
 | 0, l, h => h
 | n + 1, l, h => by
  unfold reachF
  split
  ·exact h
  ·exact reachF_asc n (growU_asc h)
theorem reachF_mem (hN : ∀ u, ∀ x ∈ wt u, x ∈ N) {q : ByteArray} : ∀ (n : Nat) {l : List ByteArray}, Asc l → (∀ x ∈ l, TC wt q x) → (∀ x ∈ wt q, x ∈ l) → N.length ≤ n + l.length → ∀ x, x ∈ reachF wt n l ↔ TC wt q x := by
 intro n
 induction n with
 | zero =>
  intro l ha h1 h2 hl x
  refine ⟨fun hx => h1 x hx, fun hx => ?_⟩
  obtain ⟨y, hy⟩ := hx.last
  exact nodup_full ha.nodup (fun z hz => by obtain ⟨y, hy⟩ := (h1 z hz).last; exact hN y z hy) (by simpa [reachF] using hl) x (hN y x hy)
 | succ n ih =>
  intro l ha h1 h2 hl x
  unfold reachF
  by_cases he : (growU wt l).length = l.length
  ·rw [if_pos he]
   refine ⟨fun hx => h1 x hx, fun hx => ?_⟩
   have hfull := nodup_full (a := l) (b := growU wt l) ha.nodup (fun z hz => (mem_growU ha).2 (.inr hz)) (Nat.le_of_eq he)
   induction hx with
   | base h => exact h2 _ h
   | step _ h ih2 => exact hfull _ ((mem_growU ha).2 (.inl ⟨_, ih2, h⟩))
  ·rw [if_neg he]
   have hle : l.length ≤ (growU wt l).length := nodup_sub_len ha.nodup (fun z hz => (mem_growU ha).2 (.inr hz))
   refine ih (growU_asc ha) (fun z hz => ?_) (fun z hz => (mem_growU ha).2 (.inr (h2 z hz))) (by omega) x
   rcases (mem_growU ha).1 hz with ⟨y, hy, hz⟩ | hz
   ·exact .step (h1 y hy) hz
   ·exact h1 z hz
theorem reachL_mem (hN : ∀ u, ∀ x ∈ wt u, x ∈ N) (ha : ∀ u, Asc (wt u)) (q x : ByteArray) : x ∈ reachL wt N q ↔ TC wt q x :=
 reachF_mem hN _ (ha q) (fun x hx => .base hx) (fun x hx => hx) (by omega) x
theorem stuckU_iff (hN : ∀ u, ∀ x ∈ wt u, x ∈ N) (ha : ∀ u, Asc (wt u)) (q : ByteArray) : stuckU wt N q = true ↔ ∃ y, (y = q ∨ TC wt q y) ∧ TC wt y y := by
 unfold stuckU
 rw [List.any_eq_true]
 constructor
 ·rintro ⟨y, hy, h⟩
  have h2 := (reachL_mem hN ha _ _).1 (of_decide_eq_true h)
  rcases List.mem_append.1 hy with hy | hy
  ·exact ⟨y, .inr ((reachL_mem hN ha _ _).1 hy), h2⟩
  ·exact ⟨y, .inl (List.mem_singleton.1 hy), h2⟩
 ·rintro ⟨y, hy, h⟩
  refine ⟨y, ?_, decide_eq_true ((reachL_mem hN ha _ _).2 h)⟩
  rcases hy with rfl | hy
  ·simp
  ·exact List.mem_append_left _ ((reachL_mem hN ha _ _).2 hy)
theorem stuck_closed (hN : ∀ u, ∀ x ∈ wt u, x ∈ N) (ha : ∀ u, Asc (wt u)) {q : ByteArray} (h : stuckU wt N q = true) : ∃ x ∈ wt q, stuckU wt N x = true := by
 obtain ⟨y, hy, hc⟩ := (stuckU_iff hN ha q).1 h
 have hqy : TC wt q y := by
  rcases hy with rfl | hy
  ·exact hc
  ·exact hy
 obtain ⟨x, hx, hxy⟩ := hqy.head
 refine ⟨x, hx, (stuckU_iff hN ha x).2 ⟨y, ?_, hc⟩⟩
 rcases hxy with rfl | hxy
 ·exact .inl rfl
 ·exact .inr hxy
inductive Pth (wt : ByteArray → List ByteArray) (q : ByteArray) : List ByteArray → Prop where
 | one : Pth wt q [q]
 | more {x y : ByteArray} {l : List ByteArray} : x ∈ wt y → Pth wt q (y :: l) → Pth wt q (x :: y :: l)
theorem Pth.to {q : ByteArray} {l : List ByteArray} (h : Pth wt q l) : ∀ x t, l = x :: t → ∀ y ∈ t, TC wt y x := by
 induction h with
 | one => intro x t e y hy; cases e; cases hy
 | more h1 h2 ih =>
  intro x t e y hy
  cases e
  rcases List.mem_cons.1 hy with rfl | hy
  ·exact .base h1
  ·exact .step (ih _ _ rfl y hy) h1
theorem Pth.from {q : ByteArray} {l : List ByteArray} (h : Pth wt q l) : ∀ y ∈ l, y = q ∨ TC wt q y := by
 induction h with
 | one => intro y hy; exact .inl (List.mem_singleton.1 hy)
 | more h1 h2 ih =>
  intro y hy
  rcases List.mem_cons.1 hy with rfl | hy
  ·rcases ih _ (List.mem_cons_self ..) with rfl | h
   ·exact .inr (.base h1)
   ·exact .inr (.step h h1)
  ·exact ih y hy
theorem Pth.twice {q : ByteArray} {l : List ByteArray} (h : Pth wt q l) (hn : ¬l.Nodup) : ∃ y ∈ l, TC wt y y := by
 induction h with
 | one => exact absurd (by simp) hn
 | more h1 h2 ih =>
  rename_i x y l
  by_cases hx : x ∈ y :: l
  ·exact ⟨x, List.mem_cons_self .., Pth.to (.more h1 h2) _ _ rfl x hx⟩
  ·obtain ⟨z, hz, hc⟩ := ih (fun hn2 => hn (List.nodup_cons.2 ⟨hx, hn2⟩))
   exact ⟨z, List.mem_cons_of_mem _ hz, hc⟩
theorem pth_exists {S : List ByteArray} (hS : ∀ q ∈ S, ∃ x ∈ wt q, x ∈ S) {q : ByteArray} (hq : q ∈ S) : ∀ n, ∃ l, Pth wt q l ∧ l.length = n + 1 ∧ ∀ y ∈ l, y ∈ S
 | 0 => ⟨[q], .one, rfl, fun y hy => List.mem_singleton.1 hy ▸ hq⟩
 | n + 1 => by
  obtain ⟨l, h1, h2, h3⟩ := pth_exists hS hq n
  cases l with
  | nil => cases h2
  | cons y t =>
   obtain ⟨x, hx, hxS⟩ := hS y (h3 y (List.mem_cons_self ..))
   refine ⟨x :: y :: t, .more hx h1, by rw [List.length_cons, h2], fun z hz => ?_⟩
   rcases List.mem_cons.1 hz with rfl | hz
   ·exact hxS
   ·exact h3 z hz
theorem stuck_max (hN : ∀ u, ∀ x ∈ wt u, x ∈ N) (ha : ∀ u, Asc (wt u)) {S : List ByteArray} (hS : ∀ q ∈ S, ∃ x ∈ wt q, x ∈ S) {q : ByteArray} (hq : q ∈ S) : stuckU wt N q = true := by
 obtain ⟨l, h1, h2, h3⟩ := pth_exists hS hq S.length
 have hn : ¬l.Nodup := fun h => by have := nodup_sub_len h h3; omega
 obtain ⟨y, hy, hc⟩ := h1.twice hn
 exact (stuckU_iff hN ha q).2 ⟨y, h1.from y hy, hc⟩
end
def stuckL (W : Web) (R : List Run) : List ByteArray := (R.map Run.Name).filter (stuckU (waitsL W R) (R.map Run.Name))
theorem waits_names {W : Web} {R : List Run} (u x : ByteArray) (h : x ∈ waitsL W R u) : x ∈ R.map Run.Name := by
 obtain ⟨r, hr, _⟩ := waits_run h
 obtain ⟨h1, h2⟩ := runOf_some hr
 exact List.mem_map.2 ⟨r, h1, h2⟩
theorem waits_asc (W : Web) (R : List Run) (u : ByteArray) : Asc (waitsL W R u) := insS_asc _
theorem filter_asc {l : List ByteArray} (h : Asc l) (p : ByteArray → Bool) : Asc (l.filter p) := List.Pairwise.filter p h
/-- the names of a list that is asked for in any order, those that p holds of put in -/
theorem stuckL_asc {W : Web} {R : List Run} (h : AscR R) : Asc (stuckL W R) := filter_asc h _
end Go.Proofs.YtkpkfihaihoaeaaGreatDoor.M
end
section
set_option linter.unusedVariables false
set_option linter.unusedSimpArgs false
namespace Go.Proofs.YtkpkfihaihoaeaaGreatDoor.M
open Go.RowKit
def onTo (R : List Run) (asks : List ByteArray) (k : Nat) : List ByteArray := (asks.take k).filter (isOn R)
theorem onTo_zero (R : List Run) (asks : List ByteArray) : onTo R asks 0 = [] := rfl
theorem onTo_yes {R : List Run} {asks : List ByteArray} {k : Nat} (hk : k < asks.length) (h : isOn R asks[k] = true) : onTo R asks (k + 1) = onTo R asks k ++ [asks[k]] := by
 unfold onTo
 rw [List.take_succ_eq_append_getElem hk, List.filter_append, List.filter_cons, if_pos h]; rfl
theorem onTo_no {R : List Run} {asks : List ByteArray} {k : Nat} (hk : k < asks.length) (h : isOn R asks[k] = false) : onTo R asks (k + 1) = onTo R asks k := by
 unfold onTo
 rw [List.take_succ_eq_append_getElem hk, List.filter_append, List.filter_cons, if_neg (by rw [h]; decide)]; simp
theorem onTo_end (R : List Run) (asks : List ByteArray) : onTo R asks asks.length = asks.filter (isOn R) := by unfold onTo; rw [List.take_length]
theorem onTo_len (R : List Run) (asks : List ByteArray) (k : Nat) : (onTo R asks k).length ≤ k := by
 unfold onTo
 exact Nat.le_trans (List.length_filter_le _ _) (by simp; omega)
theorem isOn_none {R : List Run} {q : ByteArray} (h : runOf R q = none) : isOn R q = false := by unfold isOn; rw [h]
theorem isOn_some {R : List Run} {q : ByteArray} {r : Run} (h : runOf R q = some r) : isOn R q = !r.Over := by unfold isOn; rw [h]
theorem waits_none {W : Web} {R : List Run} {q : ByteArray} (h : runOf R q = none) : waitsL W R q = [] := by unfold waitsL waitsRaw; rw [h]; rfl
theorem waits_no {W : Web} {R : List Run} {q : ByteArray} {r : Run} (h : runOf R q = some r) (h2 : (r.Over || r.Visits == 0) = true) : waitsL W R q = [] := by unfold waitsL waitsRaw; rw [h]; simp only; rw [if_pos h2]; rfl
theorem waits_raw {W : Web} {R : List Run} {q : ByteArray} {r : Run} (h : runOf R q = some r) (h2 : (r.Over || r.Visits == 0) = false) : waitsRaw W R q = (stepOf W r).Asks.filter (isOn R) := by unfold waitsRaw; rw [h]; simp only; rw [if_neg (by rw [h2]; decide)]
set_option maxRecDepth 100000 in
set_option maxHeartbeats 4000000 in
theorem waits_calls {lo : Nat} (W : Web) (roots : List ByteArray) (R : List Run) (e : Nat) (F : List Nat) (q : ByteArray) (w : World) (h : Eng lo w W roots R e F) (hw : checkWeb W = 0) (hI : Inv W R) :
  Calls Tryz.prog 101 #[.pointer (some ⟨e, 0, none⟩), .string q] w (MadeV w (strsT 9 (waitsL W R q))) := by
 obtain ⟨m, nv, rv, L, Fr, W0, tN, tS, tC, hX⟩ := h
 obtain ⟨A, c, B, d, rfl, rfl, _, _, c0, c1, c2⟩ := hX.cells
 obtain ⟨ha, hn⟩ := web_asc hw
 replace ha := Asd.mk ha
 cases hr : runOf R q with
 | none =>
  have hl := hX.run_none hr
  have e1 := Asd.mk (waits_none (W := W) hr)
  clear hX hr
  go_enter Tryz.func101, Tryz.ntmps101
  go_wp2
  go_ret
  rw [e1.out]
  exact ⟨_, rfl, Lie.made (Lie.nil _ _ _ _), by repeat first|with_reducible (first|exact Below.refl _ _|exact Below.refl _ _|refine below_al ?_ _|refine below_dr ?_ _|refine below_d1 ?_)|(with_reducible refine Below.setCell ?_ ?_ _;rotate_left;next => first|(simp;done)|(simp;omega)|omega)⟩
 | some r =>
  obtain ⟨x, hx, hxr, hl⟩ := hX.run_some hr
  have hRb := (hX.runs x hx).1
  rw [hxr] at hRb
  have y0 : w.cell? ⟨x.b, 0, none⟩ = some (.string r.Name) := cellOf hRb (i := 0) rfl
  have y1 : w.cell? ⟨x.b, 1, none⟩ = some (.bool r.Over) := cellOf hRb (i := 1) rfl
  have y4 : w.cell? ⟨x.b, 4, none⟩ = some (.int .i64 r.At) := cellOf hRb (i := 4) rfl
  have y5 : w.cell? ⟨x.b, 5, none⟩ = some (.int .i64 r.Visits) := cellOf hRb (i := 5) rfl
  clear hRb
  by_cases ho : r.Over = true
  ·have e1 := Asd.mk (waits_no (W := W) hr (by rw [ho]; rfl))
   rw [ho] at y1
   clear hX hr y0 y4 y5
   go_enter Tryz.func101, Tryz.ntmps101
   go_wp2
   go_ret
   rw [e1.out]
   exact ⟨_, rfl, Lie.made (Lie.nil _ _ _ _), by repeat first|with_reducible (first|exact Below.refl _ _|exact Below.refl _ _|refine below_al ?_ _|refine below_dr ?_ _|refine below_d1 ?_)|(with_reducible refine Below.setCell ?_ ?_ _;rotate_left;next => first|(simp;done)|(simp;omega)|omega)⟩
  replace ho := Bool.eq_false_iff.2 ho
  rw [ho] at y1
  by_cases hv : r.Visits = 0
  ·have e1 := Asd.mk (waits_no (W := W) hr (by rw [ho, hv]; rfl))
   rw [hv] at y5
   clear hX hr y0 y4
   go_enter Tryz.func101, Tryz.ntmps101
   go_wp2
   go_ret
   rw [e1.out]
   exact ⟨_, rfl, Lie.made (Lie.nil _ _ _ _), by repeat first|with_reducible (first|exact Below.refl _ _|exact Below.refl _ _|refine below_al ?_ _|refine below_dr ?_ _|refine below_d1 ?_)|(with_reducible refine Below.setCell ?_ ?_ _;rotate_left;next => first|(simp;done)|(simp;omega)|omega)⟩
  have hvb : (r.Visits == 0) = false := by simp [hv]
  have e1 := Asd.mk (waits_raw (W := W) hr (by rw [ho, hvb]; rfl))
  obtain ⟨w1, w2⟩ := waits_len hw hI q
  have hok := hI.ok r (runOf_some hr).1
  obtain ⟨n, hK⟩ := stepK hw hok
  rw [hK.at_] at y4
  have hnl := hK.lt
  have hweb := hok.web
  have hrn := (runOf_some hr).2
  rw [hrn] at y0 hnl hweb
  have hst : Asd (stepOf W r = (actOf W q).Steps[n]) := Asd.mk (by rw [hK.step]; subst hrn; rfl)
  have has := hK.asks
  rw [hst.out] at has
  obtain ⟨vv, hvv⟩ : ∃ v, r.Visits = v := ⟨_, rfl⟩
  rw [hvv] at y5 hvb
  have hvd : decide (vv = 0) = false := by simpa using hvb
  obtain ⟨a, ha2⟩ : ∃ a, actOf W q = a := ⟨_, rfl⟩
  rw [hst.out] at e1
  simp only [ha2] at hnl has e1
  obtain ⟨st, hst2⟩ : ∃ st, a.Steps[n] = st := ⟨_, rfl⟩
  rw [hst2] at has e1
  have hkeep := Asd.mk (show ∀ Z, Below w.heap.size w Z → (Below w.heap.size w Z ∧ Z.cell? ⟨x.b, 4, none⟩ = some (.int .i64 (n : Int))) from fun Z hb => ⟨hb, cell_below hb y4⟩)
  have s_0 : Below w.heap.size w w.drew := (Below.refl _ _).drew
  replace hX := Asd.mk hX
  replace hr := Asd.mk hr
  replace w1 := Asd.mk w1
  replace w2 := Asd.mk w2
  replace hx := Asd.mk hx
  replace hst2 := Asd.mk hst2
  replace ha2 := Asd.mk ha2
  clear hst hK hok hxr hvv hv hrn y0
  go_enter Tryz.func101, Tryz.ntmps101
  go_upto_region 5 with (fail)
  refine wp_region_held_drew (S := fun Z => Below w.heap.size w Z ∧ Z.cell? ⟨x.b, 4, none⟩ = some (.int .i64 (n : Int))) (by kernel_rfl) (hkeep.out _ s_0) (fun hHeld => ?_)
  (((refine wH 0 (v:=?_) rfl (by kernel_rfl) (fun _ _ _ h => h) (by rfl) ?_ (by assumption) ?_;rotate_left;next => ((intro X hX;(try dsimp only at hX);go_simp);try with_reducible rfl));try simp only [Act.put,List.getElem_toArray,List.getElem_cons_succ,List.getElem_cons_zero,List.setIfInBounds_toArray,List.set_cons_zero,List.set_cons_succ]); ((refine wH 1 (v:=?_) rfl (by kernel_rfl) (fun _ _ _ h => h) (by rfl) ?_ (by assumption) ?_;rotate_left;next => ((intro X hX;(try dsimp only at hX);go_simp);try with_reducible rfl));try simp only [Act.put,List.getElem_toArray,List.getElem_cons_succ,List.getElem_cons_zero,List.setIfInBounds_toArray,List.set_cons_zero,List.set_cons_succ]); ((refine wH 4 (v:=?_) rfl (by kernel_rfl) (fun _ _ _ h => h) (by rfl) ?_ (by assumption) ?_;rotate_left;next => ((intro X hX;(try dsimp only at hX);go_simp);try with_reducible rfl));try simp only [Act.put,List.getElem_toArray,List.getElem_cons_succ,List.getElem_cons_zero,List.setIfInBounds_toArray,List.set_cons_zero,List.set_cons_succ]); ((refine wH 5 (v:=?_) rfl (by kernel_rfl) (fun _ _ _ h => h) (by rfl) ?_ (by assumption) ?_;rotate_left;next => ((intro X hX;(try dsimp only at hX);go_simp);try with_reducible rfl));try simp only [Act.put,List.getElem_toArray,List.getElem_cons_succ,List.getElem_cons_zero,List.setIfInBounds_toArray,List.set_cons_zero,List.set_cons_succ]); ((refine wH 6 (v:=?_) rfl (by kernel_rfl) (fun _ _ _ h => h) (by rfl) ?_ (by assumption) ?_;rotate_left;next => ((intro X hX;(try dsimp only at hX);go_simp);try with_reducible rfl));try simp only [Act.put,List.getElem_toArray,List.getElem_cons_succ,List.getElem_cons_zero,List.setIfInBounds_toArray,List.set_cons_zero,List.set_cons_succ]); ((refine wH 7 (v:=?_) rfl (by kernel_rfl) (fun _ _ _ h => h) (by rfl) ?_ (by assumption) ?_;rotate_left;next => ((intro X hX;(try dsimp only at hX);go_simp);try with_reducible rfl));try simp only [Act.put,List.getElem_toArray,List.getElem_cons_succ,List.getElem_cons_zero,List.setIfInBounds_toArray,List.set_cons_zero,List.set_cons_succ]); ((refine wH 12 (v:=?_) rfl (by kernel_rfl) (fun _ _ _ h => h) (by rfl) ?_ (by assumption) ?_;rotate_left;next => ((intro X hX;(try dsimp only at hX);go_simp);try with_reducible rfl));try simp only [Act.put,List.getElem_toArray,List.getElem_cons_succ,List.getElem_cons_zero,List.setIfInBounds_toArray,List.set_cons_zero,List.set_cons_succ]))
  (refine wpAnyH_ready (rs := [2]) (by kernel_rfl) (by simp) ?_; refine AllReadyH.cons rfl (fun K hK => ?_) AllReadyH.nil)
  go_simp
  refine (action_calls q _ (hX.out.later (show Below w.heap.size w _ from by repeat first|with_reducible (first|exact Below.refl _ _|exact s_0|refine below_al ?_ _|refine below_dr ?_ _|refine below_d1 ?_)|(with_reducible refine Below.setCell ?_ ?_ _;rotate_left;next => first|(simp;done)|(simp;omega)|omega))) ha.out hn hweb).mono ?_
  rw [ha2.out]
  rintro e' w5 ⟨A5, c5, rfl, _, hst5, hb⟩
  obtain ⟨s_0, s_1⟩ := hkeep.out _ (below_st (show Below w.heap.size w _ from by repeat first|with_reducible (first|exact Below.refl _ _|exact s_0|refine below_al ?_ _|refine below_dr ?_ _|refine below_d1 ?_)|(with_reducible refine Below.setCell ?_ ?_ _;rotate_left;next => first|(simp;done)|(simp;omega)|omega)) hb)
  obtain ⟨ad, c', v0, v2, hv, k0, k1, k2, k3, k4, k5, k6, k7, k8, _⟩ := Step.elem (hst5.below hb) hnl
  cases hv
  have hfs := field_steps a.Cost (some ad) a.Steps.length c5
  rw [hst2.out] at k8
  obtain ⟨A6, c6, rfl, _, _⟩ := rep_len k8
  replace k8 := Asd.mk k8
  clear hb hst5 k1 k2 k3 k4 k5 k6 k7
  refine hK.out _ _ (hkeep.out _ s_0) (fun hHeld => ?_)
  clear hK K
  (((refine wH 3 (v:=?_) rfl (by kernel_rfl) (fun _ _ _ h => h) (by rfl) ?_ (by assumption) ?_;rotate_left;next => ((intro X hX;(try dsimp only at hX);go_simp);try with_reducible rfl));try simp only [Act.put,List.getElem_toArray,List.getElem_cons_succ,List.getElem_cons_zero,List.setIfInBounds_toArray,List.set_cons_zero,List.set_cons_succ]); ((refine wH 8 (v:=?_) rfl (by kernel_rfl) (fun _ _ _ h => h) (by rfl) ?_ (by assumption) ?_;rotate_left;next => ((intro X hX;(try dsimp only at hX);go_simp);try with_reducible rfl));try simp only [Act.put,List.getElem_toArray,List.getElem_cons_succ,List.getElem_cons_zero,List.setIfInBounds_toArray,List.set_cons_zero,List.set_cons_succ]); ((refine wH 9 (v:=?_) rfl (by kernel_rfl) (fun _ _ _ h => h) (by rfl) ?_ (by assumption) ?_;rotate_left;next => ((intro X hX;(try dsimp only at hX);go_simp);try with_reducible rfl));try simp only [Act.put,List.getElem_toArray,List.getElem_cons_succ,List.getElem_cons_zero,List.setIfInBounds_toArray,List.set_cons_zero,List.set_cons_succ]))
  (refine wpAnyH_ready (rs := [10]) (by kernel_rfl) (by simp) ?_; refine AllReadyH.cons rfl (fun K hK => ?_) AllReadyH.nil)
  go_simp
  refine hK.out _ _ (hkeep.out _ s_0) (fun hHeld => ?_)
  clear hK K
  (((refine wH 11 (v:=?_) rfl (by kernel_rfl) (fun _ _ _ h => h) (by rfl) ?_ (by assumption) ?_;rotate_left;next => ((intro X hX;(try dsimp only at hX);go_simp);try with_reducible rfl));try simp only [Act.put,List.getElem_toArray,List.getElem_cons_succ,List.getElem_cons_zero,List.setIfInBounds_toArray,List.set_cons_zero,List.set_cons_succ]))
  refine wpAnyH_done (by kernel_rfl) ?_ _
  obtain ⟨asks, hasks⟩ : ∃ asks, st.Asks = asks := ⟨_, rfl⟩
  rw [hasks] at k8 e1 has ⊢
  have hb5 := Asd.mk s_0
  have z5 := s_0.size
  clear hkeep hfs k0 y4 hHeld s_0 s_1 hst2 hasks y1 y5 hl
  go_upto_region 6 with (fail)
  go_loopw [6, 43] (fun s6 i wr => ∃ k : Nat, k ≤ asks.length ∧ i = .int .i64 k ∧ Lie w5.heap.size wr (strsT 9 (onTo R asks k)) s6 ∧ Below w5.heap.size w5 wr) (fun _ i _ => asks.length - (intOf i).toNat)
  case atStart => exact ⟨0, by omega, rfl, by rw [onTo_zero]; exact Lie.nil _ _ _ _, Below.refl _ _⟩
  case round =>
   obtain ⟨k, hk, rfl, hL, hbr⟩ := hrel
   obtain ⟨Av, cv, rfl, _, _⟩ := hL.slice
   have hlen := onTo_len R asks k
   have hbw := below_st hb5.out hbr
   by_cases hlt : k < asks.length
   ·obtain ⟨aa, c', he', hcell⟩ := str_elem (k8.out.below hbr) hlt
    cases he'
    have hXr := Asd.mk (hX.out.later hbw)
    have x0 := cell_below hbw c0
    have x2 := cell_below hbw c2
    have hzr := hbr.size
    obtain ⟨y, hy⟩ : ∃ y, asks[k] = y := ⟨_, rfl⟩
    have hyes := Asd.mk (fun h => onTo_yes (R := R) hlt h)
    have hno := Asd.mk (fun h => onTo_no (R := R) hlt h)
    rw [hy] at hcell hyes hno
    replace hL := Asd.mk hL
    replace hbr := Asd.mk hbr
    replace hbw := Asd.mk hbw
    replace hy := Asd.mk hy
    cases hry : runOf R y with
    | none =>
     have e2 := Asd.mk (hno.out (isOn_none hry))
     have hl := hXr.out.run_none hry
     clear hyes hno hry
     go_wp2
     go_roundw
     case rel => exact ⟨k + 1, by omega, by go_num, by rw [e2.out]; exact hL.out, hbr.out⟩
     case measure => simp [intOf]; omega
    | some r2 =>
     obtain ⟨x2e, hx2, hxr2, hl⟩ := hXr.out.run_some hry
     have hRb := (hXr.out.runs x2e hx2).1
     rw [hxr2] at hRb
     have y1 : wr.cell? ⟨x2e.b, 1, none⟩ = some (.bool r2.Over) := cellOf hRb (i := 1) rfl
     have hon := isOn_some hry
     clear hRb
     cases ho2 : r2.Over with
     | true =>
      rw [ho2] at y1 hon
      have e2 := Asd.mk (hno.out hon)
      clear hyes hno hry hxr2 hon ho2
      go_wp2
      go_roundw
      case rel => exact ⟨k + 1, by omega, by go_num, by rw [e2.out]; exact hL.out, hbr.out⟩
      case measure => simp [intOf]; omega
     | false =>
      rw [ho2] at y1 hon
      have e2 := Asd.mk (hyes.out hon)
      clear hyes hno hry hxr2 hon ho2
      go_wp2_with (at_builtin; refine appStr rfl rfl rfl (lo := w5.heap.size) (wr := wr) hzr hL.out (by repeat first|with_reducible (first|exact Below.refl _ _|exact Below.refl _ _|refine below_al ?_ _|refine below_dr ?_ _|refine below_d1 ?_)|(with_reducible refine Below.setCell ?_ ?_ _;rotate_left;next => first|(simp;done)|(simp;omega)|omega)) rfl (heap_alloc_new _ _) (by omega) ?_)
      intro v7 w7 hL7 hF7
      obtain ⟨A7, d7, rfl, _, _⟩ := hL7.slice
      have hb7 := Asd.mk (Far.trans (show Below w5.heap.size w5 _ from by repeat first|with_reducible (first|exact Below.refl _ _|exact hbr.out|refine below_al ?_ _|refine below_dr ?_ _|refine below_d1 ?_)|(with_reducible refine Below.setCell ?_ ?_ _;rotate_left;next => first|(simp;done)|(simp;omega)|omega)) hF7 (Nat.le_refl _) (by simp; omega))
      replace hL7 := Asd.mk hL7
      clear hF7
      go_wp2
      go_roundw
      case rel => exact ⟨k + 1, by omega, by go_num, by rw [e2.out]; exact hL7.out, hb7.out⟩
      case measure => simp [intOf]; omega
   ·obtain rfl : k = asks.length := by omega
    have e2 := Asd.mk (show onTo R asks asks.length = waitsRaw W R q by rw [e1.out]; exact onTo_end R asks)
    rw [e2.out] at hL hlen ⊢
    obtain ⟨Fo, o1, n1, l1⟩ := hL
    replace hbw := Asd.mk hbw
    clear hbr
    go_wp2_with fail
    refine (Strings_calls _ (waitsL W R q) _ Fo _ o1 (nodup_perm_insS w2.out) (waits_asc _ _ _) (by omega)).mono ?_
    rintro e' w7 ⟨rfl, o2, hm⟩
    have hb7 := Asd.mk (MFr.upon hm hbw.out (Nat.le_refl _) (fun b hb => by have := l1 b hb; omega))
    clear hm o1
    replace o2 := Asd.mk o2
    replace l1 := Asd.mk l1
    go_wp2
    go_ret
    exact ⟨_, rfl, ⟨Fo, o2.out, n1, fun k hk => by have := l1.out k hk; omega⟩, hb7.out⟩
end Go.Proofs.YtkpkfihaihoaeaaGreatDoor.M
end
section
set_option linter.unusedVariables false
set_option linter.unusedSimpArgs false
namespace Go.Proofs.YtkpkfihaihoaeaaGreatDoor.M
open Go.RowKit
theorem Lie.emptyB (w : World) (e sz : Nat) {b : Nat} (hb : w.heap.size = b) : Lie w.heap.size (w.alloc (.cells #[] e)) (.l e sz 0 []) (.slice (some ⟨b, 0, none⟩) 0 0) := hb ▸ Lie.empty w e sz
theorem own_lit1 (w : World) (q : ByteArray) : own (w.alloc (.cells #[.string q] 9)) (strsT 9 [q]) (.slice (some ⟨w.heap.size, 0, none⟩) 1 1) [w.heap.size] := by
 simp only [strsT, tl, own]
 refine .inl ⟨[.string q], [], World.ownsRow_lit w #[.string q] 1 (Nat.zero_le _) (by decide) rfl, by simp [owns, strC, own], by simp [Value.ownBlock], fun k _ hk => by cases hk⟩
theorem Lie.lit1 (w : World) (q : ByteArray) : Lie w.heap.size (w.alloc (.cells #[.string q] 9)) (strsT 9 [q]) (.slice (some ⟨w.heap.size, 0, none⟩) 1 1) := ⟨_, own_lit1 w q, by simp, by simp⟩
/-- append of one string onto texts of one's own -/
theorem appG {w : World} {ops : Array Oper} {rest : List Oper} {o : Oper} {a : Act} {Q : Exit → Act → World → Prop} (hgd : o.guard = none) {s x : Operand} {t : TypeId} (ho : o.op = .call { callee := .builtin .append, args := #[s, x], argTypes := #[t, t] }) {by_ : Nat} {z : Value} (ht : Tryz.prog.underlying t = some (.slice 9))
  (hi : (Tryz.prog.info? 9).map (fun i => (i.zero, i.size, i.bytes)) = some (some z, 1, by_)) (hzs : z.cells.size = 1) {v : Value} (hs : a.eval s = v) {xs : List ByteArray} {q : ByteArray} {F : List Nat} (hown : own w (strsT 9 xs) v F)
  {B : Nat} (hx : a.eval x = .slice (some ⟨B, 0, none⟩) 1 1) {ty : TypeId} {fr : Nat × Nat} (hB : w.heap[B]? = some (.cells #[.string q] ty fr)) (h63 : xs.length + 1 ≤ maxLen) (hbytes : (xs.length + 1) * by_ ≤ 140737488355328)
  (h : ∀ v' w' F2, own w' (strsT 9 (xs ++ [q])) v' F2 → (∀ k ∈ F2, k ∈ F ∨ k = w.heap.size) → (F.Nodup → F2.Nodup) → MFr F w w' → wpList Tryz.prog ops Q rest (a.put o.dst v') w') :
  wpList Tryz.prog ops Q (o :: rest) a w := by
 refine wpList_plain hgd fun K hK => ?_
 have hq : owns w [T.s q] [.string q] [] := by simp [owns, own]
 obtain ⟨v', w', F2, hr, h2, h3, h4, _, row, h6, h7⟩ := run_app (P := Tryz.prog) (w := w) t o.type ht hi hzs (by decide) (m := 1) (c := 1) (A := some ⟨B, 0, none⟩) hown (fun h => by cases h) (fun _ => ⟨_, rfl, fun j u hj => World.news_of_block hB j u (by simpa using hj)⟩) rfl hq (fun k _ _ hk => by cases hk) h63 hbytes
 unfold Oper.wp execOp
 simp only [ho, resolve, invoke, builtin, Sem.run_bind, Sem.run_pure, Result.andThen_ok, List.map_toArray, List.map_cons, List.map_nil, hs, hx, hr]
 exact hK _ _ (h v' w' F2 (by rw [strsT_snoc]; exact h2) (fun k hk => (h3 k hk).elim .inl (fun h => h.elim (fun h => by cases h) .inr)) (fun hn => h4 hn List.nodup_nil (fun k hk => by cases hk)) ⟨h6.os, h6.tape, h6.output, h6.size, fun b hb hbn => h6.block b hb (fun he => hbn (h7 b he.symm))⟩)
end Go.Proofs.YtkpkfihaihoaeaaGreatDoor.M
end
section
set_option linter.unusedVariables false
set_option linter.unusedSimpArgs false
namespace Go.Proofs.YtkpkfihaihoaeaaGreatDoor.M
open Go.RowKit
theorem insS_snoc (l : List ByteArray) (x : ByteArray) : insS (l ++ [x]) = ins1 (insS l) x := by unfold insS; rw [List.foldl_append]; rfl
theorem insS_len (l : List ByteArray) : (insS l).length ≤ l.length := by
 have key : ∀ (l a : List ByteArray), (l.foldl ins1 a).length ≤ a.length + l.length := by
  intro l
  induction l with
  | nil => intro a; simp
  | cons x l ih =>
   intro a
   have h1 := ih (ins1 a x)
   have h2 := ins1_len x a
   simp only [List.foldl_cons, List.length_cons]; omega
 simpa [insS] using key l []
set_option maxRecDepth 100000 in
set_option maxHeartbeats 8000000 in
theorem l6Waits_calls {t tN tS tC : Nat} (W : Web) (x : State) (q : ByteArray) (w : World) {us vs : List Value} (hW : reps w (W.c tN tS tC) us) (h : reps w (State.c t x) vs) (hw : checkWeb W = 0) (hI : Inv W x.Runs) :
  Calls Tryz.prog 100 #[.agg us.toArray, .agg vs.toArray, .string q] w (MadeV w (strsT 9 (waitsL W x.Runs q))) := by
 obtain ⟨v0, rfl, h0⟩ := Web.ropen hW
 obtain ⟨A, c, rfl, _, _⟩ := rep_len h0
 obtain ⟨u0, u1, rfl, g0, g1⟩ := State.ropen h
 obtain ⟨D, k, rfl, _, _⟩ := rep_len g0
 obtain ⟨B, d, rfl, _, _⟩ := rep_len g1
 replace h0 := Asd.mk h0
 replace g1 := Asd.mk g1
 replace hW := Asd.mk hW
 replace h := Asd.mk h
 clear g0
 have hRl : x.Runs.length ≤ 60 := by have := hI.length hw; have := (checkWeb_ok hw).1; omega
 have hI0 := Asd.mk hI
 go_enter Tryz.func100, Tryz.ntmps100
 go_upto_region 2 with (fail)
 obtain ⟨X, eX⟩ : ∃ X : World, X = ((w.alloc (.cells #[.slice A W.Nodes.length c] 34)).alloc (.cells #[.slice D x.Roots.length k, .slice B x.Runs.length d] 38)).alloc (.cells #[] 9) := ⟨_, rfl⟩
 rw [← eX]
 have hbX := Asd.mk (show Below w.heap.size w X from eX ▸ by repeat first|with_reducible (first|exact Below.refl _ _|exact Below.refl _ _|refine below_al ?_ _|refine below_dr ?_ _|refine below_d1 ?_)|(with_reducible refine Below.setCell ?_ ?_ _;rotate_left;next => first|(simp;done)|(simp;omega)|omega))
 have a0 : X.cell? ⟨w.heap.size, 0, none⟩ = some (.slice A W.Nodes.length c) := by rw [eX]; go_simp
 have b0 : X.cell? ⟨w.heap.size + 1, 0, none⟩ = some (.slice D x.Roots.length k) := by rw [eX]; go_simp
 have b1 : X.cell? ⟨w.heap.size + 1, 1, none⟩ = some (.slice B x.Runs.length d) := by rw [eX]; go_simp
 have zX : w.heap.size + 1 < X.heap.size := by rw [eX]; simp
 have hE := Asd.mk (show Lie w.heap.size X (strsT 9 []) (.slice (some ⟨w.heap.size + 1 + 1, 0, none⟩) 0 0) from eX ▸ (Lie.emptyB ((w.alloc (.cells #[.slice A W.Nodes.length c] 34)).alloc (.cells #[.slice D x.Roots.length k, .slice B x.Runs.length d] 38)) 9 1 (by simp)).mono (show w.heap.size ≤ ((w.alloc _).alloc _).heap.size by simp; omega))
 clear eX
 go_wp2_with fail
 refine (l4At_calls x q _ (h.out.below hbX.out)).mono ?_
 obtain ⟨tq, htq⟩ : ∃ tq, atR x.Runs q = tq := ⟨_, rfl⟩
 rw [htq]
 rintro e' w3 ⟨rfl, hb⟩
 replace a0 := cell_below hb a0
 replace b0 := cell_below hb b0
 replace b1 := cell_below hb b1
 have hb3 := Asd.mk (below_st hbX.out hb)
 have hE3 := Asd.mk (hE.out.below hb)
 have zX3 : w.heap.size + 1 < w3.heap.size := by have := hb.size; omega
 clear hb
 cases hr : runOf x.Runs q with
 | none =>
  have e1 := Asd.mk (waits_none (W := W) hr)
  obtain rfl : tq = -1 := by rw [← htq]; exact atR_none hr
  clear hr htq
  go_wp2
  go_ret
  rw [e1.out]
  exact ⟨_, rfl, hE3.out.made, hb3.out⟩
 | some r =>
  obtain ⟨ir, hir, hM, hri⟩ := atR_some hr
  obtain rfl : tq = (ir : Int) := by rw [← htq]; exact hM
  obtain ⟨ax, cx, v6, he, k0, k1, k2, k3, k4, k5, k6, _, _⟩ := Run.elem (g1.out.below hb3.out) hir
  cases he
  rw [hri] at k0 k1 k2 k3 k4 k5
  have hz : (ir : Int) < (x.Runs.length : Int) := by omega
  clear k0 k2 k3 k6 hM htq hri
  by_cases ho : r.Over = true
  ·have e1 := Asd.mk (waits_no (W := W) hr (by rw [ho]; rfl))
   rw [ho] at k1
   clear hr k4 k5
   go_wp2
   go_ret
   rw [e1.out]
   exact ⟨_, rfl, hE3.out.made, hb3.out⟩
  replace ho := Bool.eq_false_iff.2 ho
  rw [ho] at k1
  by_cases hv : r.Visits = 0
  ·have e1 := Asd.mk (waits_no (W := W) hr (by rw [ho, hv]; rfl))
   rw [hv] at k5
   clear hr k4
   go_wp2
   go_ret
   rw [e1.out]
   exact ⟨_, rfl, hE3.out.made, hb3.out⟩
  have hvb : (r.Visits == 0) = false := by simp [hv]
  have e1 := Asd.mk (waits_raw (W := W) hr (by rw [ho, hvb]; rfl))
  obtain ⟨_, wnd⟩ := waits_len hw hI q
  have hok := hI.ok r (runOf_some hr).1
  obtain ⟨n, hK⟩ := stepK hw hok
  rw [hK.at_] at k4
  have hrn := (runOf_some hr).2
  have hnl := hK.lt
  have hweb := hok.web
  rw [hrn] at hnl hweb
  have hst : Asd (stepOf W r = (actOf W q).Steps[n]) := Asd.mk (by rw [hK.step]; subst hrn; rfl)
  have has := hK.asks
  rw [hst.out] at has
  rw [hst.out] at e1
  obtain ⟨na, hna, hN1, hN2⟩ := node_atN hweb
  obtain ⟨a, ha⟩ : ∃ a, actOf W q = a := ⟨_, rfl⟩
  rw [ha] at hN2
  simp only [ha] at hnl has e1
  obtain ⟨ad, c', v2, hvv, _, _, n2, n3, _⟩ := Node.elem (h0.out.below hb3.out) hna
  cases hvv
  rw [hN2] at n3
  obtain ⟨A2, c2, rfl, _, _⟩ := rep_len n3
  obtain ⟨ad2, c3, w0, w2, hvv, m0, _, _, _, _, _, _, _, m8, _⟩ := Step.elem n3 hnl
  cases hvv
  obtain ⟨asks, hasks⟩ : ∃ asks, a.Steps[n].Asks = asks := ⟨_, rfl⟩
  rw [hasks] at has e1 m8
  obtain ⟨A6, c6, rfl, _, _⟩ := rep_len m8
  obtain ⟨vv, hvw⟩ : ∃ vv, r.Visits = vv := ⟨_, rfl⟩
  rw [hvw] at k5 hvb
  have hvd : decide (vv = 0) = false := by simpa using hvb
  replace m8 := Asd.mk m8
  replace hN1 := Asd.mk hN1
  replace hN2 := Asd.mk hN2
  have hnai : (na : Int) < (W.Nodes.length : Int) := by omega
  have hnli : (n : Int) < (a.Steps.length : Int) := by omega
  clear n3 hst hK hok hrn hvw hv hr ha hweb wnd hasks
  go_upto_region 5 with (fail)
  obtain ⟨Z, eZ⟩ : ∃ Z : World, Z = w3 := ⟨_, rfl⟩
  rw [← eZ] at a0 b0 b1 hb3 hE3 zX3 k1 k4 k5 n2 m0 m8 ⊢
  clear eZ
  have hkeep := Asd.mk (show ∀ Y, Below Z.heap.size Z Y → (Below Z.heap.size Z Y ∧ Y.cell? ⟨w.heap.size, 0, none⟩ = some (.slice (some ad) W.Nodes.length c) ∧ Y.cell? ⟨w.heap.size + 1, 1, none⟩ = some (.slice (some ax) x.Runs.length d) ∧ Y.cell? ⟨(ax.add (ir * 7)).block, (ax.add (ir * 7)).off + 4, none⟩ = some (.int .i64 (n : Int)) ∧ Y.cell? ⟨(ad.add (na * 3)).block, (ad.add (na * 3)).off + 2, none⟩ = some (.slice (some ad2) a.Steps.length c2) ∧ Y.cell? (ad2.add (n * 8)) = some (.slice A6 asks.length c6)) from fun Y hb => ⟨hb, cell_below hb a0, cell_below hb b1, cell_below hb k4, cell_below hb n2, cell_below hb m0⟩)
  have s_0 : Below Z.heap.size Z Z.drew := (Below.refl _ _).drew
  refine wp_region_held_drew (S := fun Y => Below Z.heap.size Z Y ∧ Y.cell? ⟨w.heap.size, 0, none⟩ = some (.slice (some ad) W.Nodes.length c) ∧ Y.cell? ⟨w.heap.size + 1, 1, none⟩ = some (.slice (some ax) x.Runs.length d) ∧ Y.cell? ⟨(ax.add (ir * 7)).block, (ax.add (ir * 7)).off + 4, none⟩ = some (.int .i64 (n : Int)) ∧ Y.cell? ⟨(ad.add (na * 3)).block, (ad.add (na * 3)).off + 2, none⟩ = some (.slice (some ad2) a.Steps.length c2) ∧ Y.cell? (ad2.add (n * 8)) = some (.slice A6 asks.length c6)) (by kernel_rfl) (hkeep.out _ s_0) (fun hHeld => ?_)
  (((refine wH 0 (v:=?_) rfl (by kernel_rfl) (fun _ _ _ h => h) (by rfl) ?_ (by assumption) ?_;rotate_left;next => ((intro X hX;(try dsimp only at hX);go_simp);try with_reducible rfl));try simp only [Act.put,List.getElem_toArray,List.getElem_cons_succ,List.getElem_cons_zero,List.setIfInBounds_toArray,List.set_cons_zero,List.set_cons_succ]); ((refine wH 1 (v:=?_) rfl (by kernel_rfl) (fun _ _ _ h => h) (by rfl) ?_ (by assumption) ?_;rotate_left;next => ((intro X hX;(try dsimp only at hX);go_simp);try with_reducible rfl));try simp only [Act.put,List.getElem_toArray,List.getElem_cons_succ,List.getElem_cons_zero,List.setIfInBounds_toArray,List.set_cons_zero,List.set_cons_succ]); ((refine wH 2 (v:=?_) rfl (by kernel_rfl) (fun _ _ _ h => h) (by rfl) ?_ (by assumption) ?_;rotate_left;next => ((intro X hX;(try dsimp only at hX);go_simp);try with_reducible rfl));try simp only [Act.put,List.getElem_toArray,List.getElem_cons_succ,List.getElem_cons_zero,List.setIfInBounds_toArray,List.set_cons_zero,List.set_cons_succ]); ((refine wH 3 (v:=?_) rfl (by kernel_rfl) (fun _ _ _ h => h) (by rfl) ?_ (by assumption) ?_;rotate_left;next => ((intro X hX;(try dsimp only at hX);go_simp);try with_reducible rfl));try simp only [Act.put,List.getElem_toArray,List.getElem_cons_succ,List.getElem_cons_zero,List.setIfInBounds_toArray,List.set_cons_zero,List.set_cons_succ]); ((refine wH 9 (v:=?_) rfl (by kernel_rfl) (fun _ _ _ h => h) (by rfl) ?_ (by assumption) ?_;rotate_left;next => ((intro X hX;(try dsimp only at hX);go_simp);try with_reducible rfl));try simp only [Act.put,List.getElem_toArray,List.getElem_cons_succ,List.getElem_cons_zero,List.setIfInBounds_toArray,List.set_cons_zero,List.set_cons_succ]); ((refine wH 10 (v:=?_) rfl (by kernel_rfl) (fun _ _ _ h => h) (by rfl) ?_ (by assumption) ?_;rotate_left;next => ((intro X hX;(try dsimp only at hX);go_simp);try with_reducible rfl));try simp only [Act.put,List.getElem_toArray,List.getElem_cons_succ,List.getElem_cons_zero,List.setIfInBounds_toArray,List.set_cons_zero,List.set_cons_succ]); ((refine wH 11 (v:=?_) rfl (by kernel_rfl) (fun _ _ _ h => h) (by rfl) ?_ (by assumption) ?_;rotate_left;next => ((intro X hX;(try dsimp only at hX);go_simp);try with_reducible rfl));try simp only [Act.put,List.getElem_toArray,List.getElem_cons_succ,List.getElem_cons_zero,List.setIfInBounds_toArray,List.set_cons_zero,List.set_cons_succ]); ((refine wH 12 (v:=?_) rfl (by kernel_rfl) (fun _ _ _ h => h) (by rfl) ?_ (by assumption) ?_;rotate_left;next => ((intro X hX;(try dsimp only at hX);go_simp);try with_reducible rfl));try simp only [Act.put,List.getElem_toArray,List.getElem_cons_succ,List.getElem_cons_zero,List.setIfInBounds_toArray,List.set_cons_zero,List.set_cons_succ]); ((refine wH 13 (v:=?_) rfl (by kernel_rfl) (fun _ _ _ h => h) (by rfl) ?_ (by assumption) ?_;rotate_left;next => ((intro X hX;(try dsimp only at hX);go_simp);try with_reducible rfl));try simp only [Act.put,List.getElem_toArray,List.getElem_cons_succ,List.getElem_cons_zero,List.setIfInBounds_toArray,List.set_cons_zero,List.set_cons_succ]); ((refine wH 14 (v:=?_) rfl (by kernel_rfl) (fun _ _ _ h => h) (by rfl) ?_ (by assumption) ?_;rotate_left;next => ((intro X hX;(try dsimp only at hX);go_simp);try with_reducible rfl));try simp only [Act.put,List.getElem_toArray,List.getElem_cons_succ,List.getElem_cons_zero,List.setIfInBounds_toArray,List.set_cons_zero,List.set_cons_succ]))
  (refine wpAnyH_ready (rs := [4]) (by kernel_rfl) (by simp) ?_; refine AllReadyH.cons rfl (fun K hK => ?_) AllReadyH.nil)
  go_simp
  refine (l2At_calls W q _ (Web.rmk W (h0.out.below (below_st hb3.out (show Below Z.heap.size Z _ from by repeat first|with_reducible (first|exact Below.refl _ _|exact s_0|refine below_al ?_ _|refine below_dr ?_ _|refine below_d1 ?_)|(with_reducible refine Below.setCell ?_ ?_ _;rotate_left;next => first|(simp;done)|(simp;omega)|omega)))))).mono ?_
  rw [hN1.out]
  rintro e' w6 ⟨rfl, hb⟩
  have hb6 := Asd.mk (below_st (show Below Z.heap.size Z _ from by repeat first|with_reducible (first|exact Below.refl _ _|exact s_0|refine below_al ?_ _|refine below_dr ?_ _|refine below_d1 ?_)|(with_reducible refine Below.setCell ?_ ?_ _;rotate_left;next => first|(simp;done)|(simp;omega)|omega)) hb)
  clear hb s_0
  have s_0 := hb6.out
  refine hK.out _ _ (hkeep.out _ s_0) (fun hHeld => ?_)
  clear hK K
  (((refine wH 5 (v:=?_) rfl (by kernel_rfl) (fun _ _ _ h => h) (by rfl) ?_ (by assumption) ?_;rotate_left;next => ((intro X hX;(try dsimp only at hX);go_simp);try with_reducible rfl));try simp only [Act.put,List.getElem_toArray,List.getElem_cons_succ,List.getElem_cons_zero,List.setIfInBounds_toArray,List.set_cons_zero,List.set_cons_succ]); ((refine wH 6 (v:=?_) rfl (by kernel_rfl) (fun _ _ _ h => h) (by rfl) ?_ (by assumption) ?_;rotate_left;next => ((intro X hX;(try dsimp only at hX);go_simp);try with_reducible rfl));try simp only [Act.put,List.getElem_toArray,List.getElem_cons_succ,List.getElem_cons_zero,List.setIfInBounds_toArray,List.set_cons_zero,List.set_cons_succ]); ((refine wH 7 (v:=?_) rfl (by kernel_rfl) (fun _ _ _ h => h) (by rfl) ?_ (by assumption) ?_;rotate_left;next => ((intro X hX;(try dsimp only at hX);go_simp);try with_reducible rfl));try simp only [Act.put,List.getElem_toArray,List.getElem_cons_succ,List.getElem_cons_zero,List.setIfInBounds_toArray,List.set_cons_zero,List.set_cons_succ]); ((refine wH 8 (v:=?_) rfl (by kernel_rfl) (fun _ _ _ h => h) (by rfl) ?_ (by assumption) ?_;rotate_left;next => ((intro X hX;(try dsimp only at hX);go_simp);try with_reducible rfl));try simp only [Act.put,List.getElem_toArray,List.getElem_cons_succ,List.getElem_cons_zero,List.setIfInBounds_toArray,List.set_cons_zero,List.set_cons_succ]); ((refine wH 15 (v:=?_) rfl (by kernel_rfl) (fun _ _ _ h => h) (by rfl) ?_ (by assumption) ?_;rotate_left;next => ((intro X hX;(try dsimp only at hX);go_simp);try with_reducible rfl));try simp only [Act.put,List.getElem_toArray,List.getElem_cons_succ,List.getElem_cons_zero,List.setIfInBounds_toArray,List.set_cons_zero,List.set_cons_succ]); ((refine wH 16 (v:=?_) rfl (by kernel_rfl) (fun _ _ _ h => h) (by rfl) ?_ (by assumption) ?_;rotate_left;next => ((intro X hX;(try dsimp only at hX);go_simp);try with_reducible rfl));try simp only [Act.put,List.getElem_toArray,List.getElem_cons_succ,List.getElem_cons_zero,List.setIfInBounds_toArray,List.set_cons_zero,List.set_cons_succ]); ((refine wH 17 (v:=?_) rfl (by kernel_rfl) (fun _ _ _ h => h) (by rfl) ?_ (by assumption) ?_;rotate_left;next => ((intro X hX;(try dsimp only at hX);go_simp);try with_reducible rfl));try simp only [Act.put,List.getElem_toArray,List.getElem_cons_succ,List.getElem_cons_zero,List.setIfInBounds_toArray,List.set_cons_zero,List.set_cons_succ]); ((refine wH 18 (v:=?_) rfl (by kernel_rfl) (fun _ _ _ h => h) (by rfl) ?_ (by assumption) ?_;rotate_left;next => ((intro X hX;(try dsimp only at hX);go_simp);try with_reducible rfl));try simp only [Act.put,List.getElem_toArray,List.getElem_cons_succ,List.getElem_cons_zero,List.setIfInBounds_toArray,List.set_cons_zero,List.set_cons_succ]))
  refine wpAnyH_done (by kernel_rfl) ?_ _
  have hb5 := Asd.mk (below_st hb3.out hb6.out)
  replace b0 := cell_below hb6.out b0
  replace b1 := cell_below hb6.out b1
  replace m8 := Asd.mk (m8.out.below hb6.out)
  replace hE3 := Asd.mk (hE3.out.below hb6.out)
  have zX6 : w.heap.size + 1 < w6.heap.size := by have := hb6.out.size; omega
  clear hkeep hHeld s_0 a0 k1 k4 k5 n2 m0
  go_upto_region 6 with (fail)
  obtain ⟨Y, eY⟩ : ∃ Y : World, Y = w6 := ⟨_, rfl⟩
  rw [← eY] at hb5 b0 b1 m8 hE3 zX6 ⊢
  clear eY hb6
  go_wp2
  go_loopw [7, 10] (fun s7 i wr => ∃ kk : Nat, kk ≤ asks.length ∧ i = .int .i64 kk ∧ Lie w.heap.size wr (strsT 9 (insS (onTo x.Runs asks kk))) s7 ∧ Below Y.heap.size Y wr) (fun _ i _ => asks.length - (intOf i).toNat)
  case atStart => exact ⟨0, by omega, rfl, by rw [onTo_zero]; exact hE3.out, Below.refl _ _⟩
  case round =>
   obtain ⟨kk, hk, rfl, hL, hbr⟩ := hrel
   obtain ⟨Av, cv, rfl, _, _⟩ := hL.slice
   have hlen := onTo_len x.Runs asks kk
   have hlen2 := insS_len (onTo x.Runs asks kk)
   have hbw := below_st hb5.out hbr
   by_cases hlt : kk < asks.length
   ·obtain ⟨aa, c', he', hcell⟩ := str_elem (m8.out.below hbr) hlt
    cases he'
    have b0r := cell_below hbr b0
    have b1r := cell_below hbr b1
    have hzr := hbr.size
    obtain ⟨y, hy⟩ : ∃ y, asks[kk] = y := ⟨_, rfl⟩
    have hyes := Asd.mk (fun h => onTo_yes (R := x.Runs) hlt h)
    have hno := Asd.mk (fun h => onTo_no (R := x.Runs) hlt h)
    rw [hy] at hcell hyes hno
    replace hL := Asd.mk hL
    replace hbr := Asd.mk hbr
    replace hbw := Asd.mk hbw
    replace hy := Asd.mk hy
    go_upto_region 9 with (fail)
    go_still_tail 5, (by kernel_rfl)
    change wpList _ _ _ _ _ wr.drew
    go_wp2_with fail
    refine (l4At_calls x y _ (h.out.below (hbw.out.trans ((show Below wr.heap.size wr _ from by repeat first|with_reducible (first|exact Below.refl _ _|exact Below.refl _ _|refine below_al ?_ _|refine below_dr ?_ _|refine below_d1 ?_)|(with_reducible refine Below.setCell ?_ ?_ _;rotate_left;next => first|(simp;done)|(simp;omega)|omega)).mono hbw.out.size)))).mono ?_
    obtain ⟨ty, hty⟩ : ∃ ty, atR x.Runs y = ty := ⟨_, rfl⟩
    rw [hty]
    rintro e' w7 ⟨rfl, hb⟩
    have hb7 := Asd.mk (below_st (show Below wr.heap.size wr _ from by repeat first|with_reducible (first|exact Below.refl _ _|exact Below.refl _ _|refine below_al ?_ _|refine below_dr ?_ _|refine below_d1 ?_)|(with_reducible refine Below.setCell ?_ ?_ _;rotate_left;next => first|(simp;done)|(simp;omega)|omega)) hb)
    replace b0r := cell_below hb7.out b0r
    replace b1r := cell_below hb7.out b1r
    replace hcell := cell_below hb7.out hcell
    have hL7 := Asd.mk (hL.out.below hb7.out)
    have hb7Y := Asd.mk (below_st hbr.out hb7.out)
    clear hb
    cases hry : runOf x.Runs y with
    | none =>
     have e2 := Asd.mk (hno.out (isOn_none hry))
     obtain rfl : ty = -1 := by rw [← hty]; exact atR_none hry
     clear hyes hno hry hty
     go_wp2
     go_roundw
     case rel => exact ⟨kk + 1, by omega, by go_num, by rw [e2.out]; exact hL7.out, hb7Y.out⟩
     case measure => simp [intOf]; omega
    | some r2 =>
     obtain ⟨iy, hiy, hMy, hyi⟩ := atR_some hry
     obtain rfl : ty = (iy : Int) := by rw [← hty]; exact hMy
     obtain ⟨ay, cy, v7, he, _, k1, _⟩ := Run.elem (g1.out.below (hbw.out.trans (hb7.out.mono hbw.out.size))) hiy
     cases he
     rw [hyi] at k1
     have hzy : (iy : Int) < (x.Runs.length : Int) := by omega
     have hzy0 : decide ((0 : Int) ≤ (iy : Int)) = true := by simp
     have hon := isOn_some hry
     clear hMy hty hyi
     cases ho2 : r2.Over with
     | true =>
      rw [ho2] at k1 hon
      have e2 := Asd.mk (hno.out hon)
      clear hyes hno hry hon ho2
      go_wp2
      go_roundw
      case rel => exact ⟨kk + 1, by omega, by go_num, by rw [e2.out]; exact hL7.out, hb7Y.out⟩
      case measure => simp [intOf]; omega
     | false =>
      rw [ho2] at k1 hon
      have e2 := Asd.mk (hyes.out hon)
      clear hyes hno hry hon ho2
      go_wp2_with fail
      refine (l6Put_calls _ y _ _ (hL7.out.rep.below (by repeat first|with_reducible (first|exact Below.refl _ _|exact Below.refl _ _|refine below_al ?_ _|refine below_dr ?_ _|refine below_d1 ?_)|(with_reducible refine Below.setCell ?_ ?_ _;rotate_left;next => first|(simp;done)|(simp;omega)|omega))) (by omega)).mono ?_
      rintro e' w9 ⟨v9, rfl, hb, hv9⟩
      have hb79 : Below w7.heap.size w7 w9 := by repeat first|with_reducible (first|exact Below.refl _ _|exact hb|refine below_al ?_ _|refine below_dr ?_ _|refine below_d1 ?_)|(with_reducible refine Below.setCell ?_ ?_ _;rotate_left;next => first|(simp;done)|(simp;omega)|omega)
      have hL9 : Asd (Lie w.heap.size w9 (strsT 9 (insS (onTo x.Runs asks (kk + 1)))) v9) := Asd.mk (by
       rw [e2.out, insS_snoc]
       rcases hv9 with ⟨rfl, h1⟩ | h1
       ·rw [h1]; exact hL7.out.below hb79
       ·exact h1.lie.mono (Nat.le_trans hbw.out.size (show wr.heap.size ≤ w7.heap.size from hb7.out.size)))
      have hb9 := Asd.mk (below_st hb7Y.out hb79)
      clear hb hv9 hb79
      go_wp2
      go_roundw
      case rel => exact ⟨kk + 1, by omega, by go_num, hL9.out, hb9.out⟩
      case measure => simp [intOf]; omega
   ·obtain rfl : kk = asks.length := by omega
    have e2 := Asd.mk (show insS (onTo x.Runs asks asks.length) = waitsL W x.Runs q by unfold waitsL; rw [e1.out, onTo_end])
    replace hL := Asd.mk hL
    replace hbw := Asd.mk hbw
    clear hbr
    go_wp2
    go_ret
    rw [← e2.out]
    exact ⟨_, rfl, hL.out.made, hbw.out⟩
end Go.Proofs.YtkpkfihaihoaeaaGreatDoor.M
end
section
set_option linter.unusedVariables false
set_option linter.unusedSimpArgs false
namespace Go.Proofs.YtkpkfihaihoaeaaGreatDoor.M
open Go.RowKit
set_option maxRecDepth 100000 in
theorem l6Has_calls {t : Nat} (l : List ByteArray) (x : ByteArray) (v : Value) (w : World) (h : rep w (strsT t l) v) :
  Calls Tryz.prog 105 #[v, .string x] w fun e w' => e = .returned (.bool (decide (x ∈ l))) ∧ w = w' := by
 obtain ⟨A, c, rfl, hc, _⟩ := rep_len h
 replace h := Asd.mk h
 go_enter Tryz.func105, Tryz.ntmps105
 go_wp2
 go_loop [5] (fun i => ∃ k : Nat, k ≤ l.length ∧ i = .int .i64 k ∧ notTo l x k) (fun i => l.length - (intOf i).toNat)
 case atStart => exact ⟨0, by omega, rfl, notTo_zero _ _⟩
 case round =>
  obtain ⟨k, hk, rfl, hA⟩ := hrel
  by_cases hlt : k < l.length
  ·obtain ⟨a, c', he, hcell⟩ := str_elem h.out hlt
   cases he
   by_cases hx : (l[k].toList == x.toList) = true
   ·have e1 := Asd.mk (show decide (x ∈ l) = true from decide_eq_true (by have := (ba_eq _ _).1 hx; rw [← this]; exact List.getElem_mem hlt))
    replace hA := Asd.mk hA
    go_wp2
    go_ret
    exact ⟨by rw [e1.out]; rfl, rfl⟩
   ·have hA2 := Asd.mk (notTo_succ hA hlt (fun h => hx (by rw [ba_eq] at h ⊢; exact h.symm)))
    replace hx := Bool.eq_false_iff.2 hx
    replace hA := Asd.mk hA
    go_wp2
    go_round
    case rel => exact ⟨k + 1, by omega, by go_num, hA2.out⟩
    case measure => simp [intOf]; omega
  ·obtain rfl : k = l.length := by omega
   have e1 := Asd.mk (show decide (x ∈ l) = false from decide_eq_false (notTo_end hA))
   replace hA := Asd.mk hA
   go_wp2
   go_ret
   exact ⟨by rw [e1.out]; rfl, rfl⟩
/-- the list that grows, behind k of the names of l and j of those that the next one waits for -/
def growT (wt : ByteArray → List ByteArray) (l : List ByteArray) (k j : Nat) : List ByteArray := ((wt (l.getD k ⟨#[]⟩)).take j).foldl ins1 (((l.take k).flatMap wt).foldl ins1 l)
theorem growT_zero (wt : ByteArray → List ByteArray) (l : List ByteArray) : growT wt l 0 0 = l := by simp [growT]
theorem growT_next {wt : ByteArray → List ByteArray} {l : List ByteArray} {k j : Nat} (hk : k < l.length) (hj : j < (wt l[k]).length) : growT wt l k (j + 1) = ins1 (growT wt l k j) (wt l[k])[j] := by
 have e : l.getD k ⟨#[]⟩ = l[k] := by rw [List.getD_eq_getElem?_getD, List.getElem?_eq_getElem hk]; rfl
 unfold growT
 rw [e, List.take_succ_eq_append_getElem hj, List.foldl_append]; rfl
theorem growT_row {wt : ByteArray → List ByteArray} {l : List ByteArray} {k : Nat} (hk : k < l.length) : growT wt l k (wt l[k]).length = growT wt l (k + 1) 0 := by
 have e : l.getD k ⟨#[]⟩ = l[k] := by rw [List.getD_eq_getElem?_getD, List.getElem?_eq_getElem hk]; rfl
 unfold growT
 rw [e, List.take_length, List.take_succ_eq_append_getElem hk, List.flatMap_append, List.foldl_append]
 simp
theorem growT_end (wt : ByteArray → List ByteArray) (l : List ByteArray) : growT wt l l.length 0 = growU wt l := by unfold growT growU; simp
theorem growT_ok {wt : ByteArray → List ByteArray} {N l : List ByteArray} (hN : ∀ u, ∀ x ∈ wt u, x ∈ N) (ha : Asc l) (hl : ∀ x ∈ l, x ∈ N) (k j : Nat) : Asc (growT wt l k j) ∧ (∀ x ∈ growT wt l k j, x ∈ N) := by
 unfold growT
 obtain ⟨a1, a2⟩ := insS_aux ((l.take k).flatMap wt) l ha
 obtain ⟨b1, b2⟩ := insS_aux ((wt (l.getD k ⟨#[]⟩)).take j) _ a1
 refine ⟨b1, fun x hx => ?_⟩
 rw [b2, a2] at hx
 rcases hx with h | h | h
 ·exact hN _ x (List.mem_of_mem_take h)
 ·obtain ⟨y, _, hy⟩ := List.mem_flatMap.1 h; exact hN _ x hy
 ·exact hl x h
theorem growT_len {wt : ByteArray → List ByteArray} {N l : List ByteArray} (hN : ∀ u, ∀ x ∈ wt u, x ∈ N) (ha : Asc l) (hl : ∀ x ∈ l, x ∈ N) (k j : Nat) : (growT wt l k j).length ≤ N.length := by
 obtain ⟨h1, h2⟩ := growT_ok hN ha hl k j
 exact nodup_sub_len h1.nodup h2
set_option maxRecDepth 100000 in
set_option maxHeartbeats 8000000 in
theorem l6Reach_calls {t tN tS tC : Nat} (W : Web) (x : State) (q : ByteArray) (w : World) {us vs : List Value} (hW : reps w (W.c tN tS tC) us) (h : reps w (State.c t x) vs) (hw : checkWeb W = 0) (hI : Inv W x.Runs) :
  Calls Tryz.prog 104 #[.agg us.toArray, .agg vs.toArray, .string q] w (MadeV w (strsT 9 (reachL (waitsL W x.Runs) (x.Runs.map Run.Name) q))) := by
 obtain ⟨v0, rfl, h0⟩ := Web.ropen hW
 obtain ⟨A, c, rfl, _, _⟩ := rep_len h0
 obtain ⟨u0, u1, rfl, g0, g1⟩ := State.ropen h
 obtain ⟨D, k, rfl, _, _⟩ := rep_len g0
 obtain ⟨B, d, rfl, _, _⟩ := rep_len g1
 replace hW := Asd.mk hW
 replace h := Asd.mk h
 clear h0 g0 g1
 have hRl : x.Runs.length ≤ 60 := by have := hI.length hw; have := (checkWeb_ok hw).1; omega
 obtain ⟨wt, hwt⟩ : ∃ wt, waitsL W x.Runs = wt := ⟨_, rfl⟩
 obtain ⟨N, hNe⟩ : ∃ N, x.Runs.map Run.Name = N := ⟨_, rfl⟩
 have hNl := Asd.mk (show N.length = x.Runs.length by rw [← hNe, List.length_map])
 have hN := Asd.mk (show ∀ u, ∀ y ∈ wt u, y ∈ N by rw [← hNe, ← hwt]; exact fun u y hy => waits_names u y hy)
 have hA := Asd.mk (show ∀ u, Asc (wt u) by rw [← hwt]; exact waits_asc W x.Runs)
 have hwl := Asd.mk (show ∀ u, (wt u).length ≤ 60 by intro u; rw [← hwt]; exact Nat.le_trans (insS_len _) (Nat.le_trans (waits_len hw hI u).1 (by decide)))
 rw [hwt, hNe]
 replace hwt := Asd.mk (fun u => congrFun hwt u)
 obtain ⟨n, hn⟩ : ∃ n, x.Runs.length = n := ⟨_, rfl⟩
 rw [hn] at hRl hNl
 replace hn := Asd.mk hn
 clear hNe
 go_enter Tryz.func104, Tryz.ntmps104
 go_upto_region 1 with (fail)
 obtain ⟨X, eX⟩ : ∃ X : World, X = (w.alloc (.cells #[.slice A W.Nodes.length c] 34)).alloc (.cells #[.slice D x.Roots.length k, .slice B x.Runs.length d] 38) := ⟨_, rfl⟩
 rw [← eX]
 have hbX := Asd.mk (show Below w.heap.size w X from eX ▸ by repeat first|with_reducible (first|exact Below.refl _ _|exact Below.refl _ _|refine below_al ?_ _|refine below_dr ?_ _|refine below_d1 ?_)|(with_reducible refine Below.setCell ?_ ?_ _;rotate_left;next => first|(simp;done)|(simp;omega)|omega))
 have a0 : X.cell? ⟨w.heap.size, 0, none⟩ = some (.slice A W.Nodes.length c) := by rw [eX]; go_simp
 have b0 : X.cell? ⟨w.heap.size + 1, 0, none⟩ = some (.slice D x.Roots.length k) := by rw [eX]; go_simp
 have b1 : X.cell? ⟨w.heap.size + 1, 1, none⟩ = some (.slice B x.Runs.length d) := by rw [eX]; go_simp
 have zX : w.heap.size + 1 < X.heap.size := by rw [eX]; simp
 clear eX
 go_wp2_with fail
 refine (l6Waits_calls W x q _ (hW.out.below (by repeat first|with_reducible (first|exact Below.refl _ _|exact hbX.out|refine below_al ?_ _|refine below_dr ?_ _|refine below_d1 ?_)|(with_reducible refine Below.setCell ?_ ?_ _;rotate_left;next => first|(simp;done)|(simp;omega)|omega))) (h.out.below (by repeat first|with_reducible (first|exact Below.refl _ _|exact hbX.out|refine below_al ?_ _|refine below_dr ?_ _|refine below_d1 ?_)|(with_reducible refine Below.setCell ?_ ?_ _;rotate_left;next => first|(simp;done)|(simp;omega)|omega))) hw hI).mono ?_
 rw [hwt.out]
 rintro e' w2 ⟨v2, rfl, hM, hb⟩
 have hb2 := Asd.mk (show Below X.heap.size X w2 from by repeat first|with_reducible (first|exact Below.refl _ _|exact hb|refine below_al ?_ _|refine below_dr ?_ _|refine below_d1 ?_)|(with_reducible refine Below.setCell ?_ ?_ _;rotate_left;next => first|(simp;done)|(simp;omega)|omega))
 have hL2 := Asd.mk (hM.lie.mono (l := w.heap.size) (by omega))
 obtain ⟨A2, c2, rfl, _, _⟩ := hL2.out.slice
 have hr0 := Asd.mk (show reachL wt N q = reachF wt n (wt q) by unfold reachL; rw [hNl.out])
 clear hb hM
 go_wp2
 go_loopw [7, 8] (fun s7 s8 wr => ∃ (i : Nat) (l : List ByteArray), i ≤ n ∧ s8 = .int .i64 i ∧ Asc l ∧ (∀ y ∈ l, y ∈ N) ∧ reachF wt (n - i) l = reachL wt N q ∧ Lie w.heap.size wr (strsT 9 l) s7 ∧ Below X.heap.size X wr) (fun _ s8 _ => n - (intOf s8).toNat)
 case atStart => exact ⟨0, wt q, by omega, rfl, hA.out q, hN.out q, by rw [hr0.out]; rfl, hL2.out, hb2.out⟩
 case round =>
  obtain ⟨i, l, hi, rfl, hasc, hlN, hrf, hL, hbr⟩ := hrel
  obtain ⟨Al, cl, rfl, _, _⟩ := hL.slice
  have hll := Asd.mk (nodup_sub_len hasc.nodup hlN)
  have hl60 : l.length ≤ 60 := by have := hll.out; have := hNl.out; omega
  have hbw := Asd.mk (below_st hbX.out hbr)
  have a0r := cell_below hbr a0
  have b0r := cell_below hbr b0
  have b1r := cell_below hbr b1
  have zr : w.heap.size + 1 < wr.heap.size := by have := hbr.size; omega
  replace hL := Asd.mk hL
  replace hbr := Asd.mk hbr
  replace hasc := Asd.mk hasc
  replace hlN := Asd.mk hlN
  by_cases hlt : i < n
  ·have hcond : i < x.Runs.length := by rw [hn.out]; exact hlt
   replace hrf := Asd.mk hrf
   go_wp2_with (at_builtin; refine appNew rfl rfl rfl rfl rfl hL.out.rep (by omega) ?_)
   intro v5 w5 hL5 hb5 hz5
   obtain ⟨A5, c5, rfl, _, _⟩ := hL5.slice
   have hL5' := Asd.mk (hL5.mono hbw.out.size)
   have hbX5 := Asd.mk (below_st hbr.out hb5)
   have hbw5 := Asd.mk (below_st hbw.out hb5)
   have hLo5 := Asd.mk (hL.out.below hb5)
   replace a0r := cell_below hb5 a0r
   replace b0r := cell_below hb5 b0r
   replace b1r := cell_below hb5 b1r
   have zr5 : w.heap.size + 1 < w5.heap.size := by omega
   clear hL5 hb5 hz5
   go_wp2
   go_loopw [9, 10] (fun s9 s10 wy => ∃ kk : Nat, kk ≤ l.length ∧ s10 = .int .i64 kk ∧ Lie w.heap.size wy (strsT 9 (growT wt l kk 0)) s9 ∧ Below w5.heap.size w5 wy) (fun _ s10 _ => l.length - (intOf s10).toNat)
   case atStart => exact ⟨0, by omega, rfl, by rw [growT_zero]; exact hL5'.out, Below.refl _ _⟩
   case round =>
    obtain ⟨kk, hkk, rfl, hLg, hby⟩ := hrel
    obtain ⟨Ag, cg, rfl, _, _⟩ := hLg.slice
    have hgl := Asd.mk (growT_len hN.out hasc.out hlN.out kk 0)
    by_cases hlt2 : kk < l.length
    ·have hbwy := Asd.mk (below_st hbw5.out hby)
     have a0y := cell_below hby a0r
     have b0y := cell_below hby b0r
     have b1y := cell_below hby b1r
     have hLoy := Asd.mk (hLo5.out.below hby)
     obtain ⟨al, c', he, hcell⟩ := str_elem hLoy.out.rep hlt2
     cases he
     obtain ⟨y, hy⟩ : ∃ y, l[kk] = y := ⟨_, rfl⟩
     rw [hy] at hcell
     have zy : w.heap.size + 1 < wr.heap.size := by have := hby.size; omega
     have hrow := Asd.mk (growT_row (wt := wt) hlt2)
     have hnext := Asd.mk (fun j hj => growT_next (wt := wt) (j := j) hlt2 hj)
     rw [hy] at hrow
     simp only [hy] at hnext
     replace hby := Asd.mk hby
     replace hLg := Asd.mk hLg
     go_upto_region 9 with (fail)
     go_still_tail 6, (by kernel_rfl)
     change wpList _ _ _ _ _ wr.drew
     go_wp2_with fail
     refine (l6Waits_calls W x y _ (hW.out.below (hbwy.out.trans ((show Below wr.heap.size wr _ from by repeat first|with_reducible (first|exact Below.refl _ _|exact Below.refl _ _|refine below_al ?_ _|refine below_dr ?_ _|refine below_d1 ?_)|(with_reducible refine Below.setCell ?_ ?_ _;rotate_left;next => first|(simp;done)|(simp;omega)|omega)).mono hbwy.out.size))) (h.out.below (hbwy.out.trans ((show Below wr.heap.size wr _ from by repeat first|with_reducible (first|exact Below.refl _ _|exact Below.refl _ _|refine below_al ?_ _|refine below_dr ?_ _|refine below_d1 ?_)|(with_reducible refine Below.setCell ?_ ?_ _;rotate_left;next => first|(simp;done)|(simp;omega)|omega)).mono hbwy.out.size))) hw hI).mono ?_
     rw [hwt.out]
     rintro e' w7 ⟨v7, rfl, hM, hb⟩
     obtain ⟨F7, o7, _, _⟩ := hM
     have hr7 := Asd.mk o7.rep
     obtain ⟨A7, c7, rfl, _, _⟩ := own_slice o7
     have hb7 := Asd.mk (below_st (show Below wr.heap.size wr _ from by repeat first|with_reducible (first|exact Below.refl _ _|exact Below.refl _ _|refine below_al ?_ _|refine below_dr ?_ _|refine below_d1 ?_)|(with_reducible refine Below.setCell ?_ ?_ _;rotate_left;next => first|(simp;done)|(simp;omega)|omega)) hb)
     have hLg7 := Asd.mk (hLg.out.below hb7.out)
     have hb75 := Asd.mk (below_st hby.out hb7.out)
     have hbw7 := Asd.mk (below_st hbwy.out hb7.out)
     have hwy := hwl.out y
     clear hb o7 hcell a0y b0y b1y
     go_wp2
     go_loopw [9, 12] (fun s9 s12 wz => ∃ jj : Nat, jj ≤ (wt y).length ∧ s12 = .int .i64 jj ∧ Lie w.heap.size wz (strsT 9 (growT wt l kk jj)) s9 ∧ Below w7.heap.size w7 wz) (fun _ s12 _ => (wt y).length - (intOf s12).toNat)
     case atStart => exact ⟨0, by omega, rfl, hLg7.out, Below.refl _ _⟩
     case round =>
      obtain ⟨jj, hjj, rfl, hLj, hbz⟩ := hrel
      obtain ⟨Aj, cj, rfl, _, _⟩ := hLj.slice
      have hgj := Asd.mk (growT_len hN.out hasc.out hlN.out kk jj)
      replace hbz := Asd.mk hbz
      replace hLj := Asd.mk hLj
      by_cases hlt3 : jj < (wt y).length
      ·obtain ⟨ay, c'', he2, hcell2⟩ := str_elem (hr7.out.below hbz.out) hlt3
       cases he2
       obtain ⟨z, hz⟩ : ∃ z, (wt y)[jj] = z := ⟨_, rfl⟩
       rw [hz] at hcell2
       have e5 := Asd.mk (hnext.out jj hlt3)
       rw [hz] at e5
       replace hz := Asd.mk hz
       go_wp2_with fail
       refine (l6Put_calls _ z _ _ (hLj.out.rep.below (by repeat first|with_reducible (first|exact Below.refl _ _|exact Below.refl _ _|refine below_al ?_ _|refine below_dr ?_ _|refine below_d1 ?_)|(with_reducible refine Below.setCell ?_ ?_ _;rotate_left;next => first|(simp;done)|(simp;omega)|omega))) (by have h1 := hgj.out; have h2 := hNl.out; omega)).mono ?_
       rintro e' w9 ⟨v9, rfl, hb, hv9⟩
       have hb9 : Below wr.heap.size wr w9 := by repeat first|with_reducible (first|exact Below.refl _ _|exact hb|refine below_al ?_ _|refine below_dr ?_ _|refine below_d1 ?_)|(with_reducible refine Below.setCell ?_ ?_ _;rotate_left;next => first|(simp;done)|(simp;omega)|omega)
       have hL9 : Asd (Lie w.heap.size w9 (strsT 9 (growT wt l kk (jj + 1))) v9) := Asd.mk (by
        rw [e5.out]
        rcases hv9 with ⟨rfl, h1⟩ | h1
        ·rw [h1]; exact hLj.out.below hb9
        ·exact h1.lie.mono (Nat.le_trans hbw7.out.size hbz.out.size))
       have hb97 := Asd.mk (below_st hbz.out hb9)
       clear hb hv9 hb9
       go_wp2
       go_roundw
       case rel => exact ⟨jj + 1, by omega, by go_num, hL9.out, hb97.out⟩
       case measure => simp [intOf]; omega
      ·obtain rfl : jj = (wt y).length := by omega
       have hb9 := Asd.mk (below_st hb75.out hbz.out)
       go_wp2
       go_roundw
       case rel => exact ⟨kk + 1, by omega, by go_num, by rw [← hrow.out]; exact hLj.out, hb9.out⟩
       case measure => simp [intOf]; omega
    ·obtain rfl : kk = l.length := by omega
     have hbX9 := Asd.mk (below_st hbX5.out hby)
     have hbw9 := Asd.mk (below_st hbw5.out hby)
     have hLo9 := Asd.mk (hLo5.out.below hby)
     have hgo := growT_ok hN.out hasc.out hlN.out l.length 0
     rw [growT_end] at hLg hgl hgo ⊢
     have hne : n - i = (n - (i + 1)) + 1 := by omega
     have hrf2 := hrf.out
     rw [hne] at hrf2
     unfold reachF at hrf2
     obtain ⟨G, hG⟩ : ∃ G, growU wt l = G := ⟨_, rfl⟩
     rw [hG] at hLg hgl hgo hrf2 ⊢
     replace hLg := Asd.mk hLg
     replace hgo := Asd.mk hgo
     by_cases he : G.length = l.length
     ·rw [if_pos he] at hrf2
      replace hrf2 := Asd.mk hrf2
      have he2 : ((G.length : Int) == (l.length : Int)) = true := by rw [beq_iff_eq]; omega
      replace he := Asd.mk he
      clear hby hG
      go_wp2
      go_ret
      rw [← hrf2.out]
      exact ⟨_, rfl, hLo9.out.made, hbw9.out⟩
     ·rw [if_neg he] at hrf2
      replace hrf2 := Asd.mk hrf2
      have he2 : ((G.length : Int) == (l.length : Int)) = false := by rw [beq_eq_false_iff_ne]; omega
      replace he := Asd.mk he
      clear hby hG
      go_wp2
      go_roundw
      case rel => exact ⟨i + 1, G, by omega, by go_num, hgo.out.1, hgo.out.2, hrf2.out, hLg.out, hbX9.out⟩
      case measure => simp [intOf]; omega
  ·obtain rfl : i = n := by omega
   have hcond : ¬i < x.Runs.length := by rw [hn.out]; omega
   have e9 := Asd.mk (show l = reachL wt N q by rw [← hrf, Nat.sub_self]; rfl)
   clear hrf
   go_wp2
   go_ret
   rw [← e9.out]
   exact ⟨_, rfl, hL.out.made, hbw.out⟩
end Go.Proofs.YtkpkfihaihoaeaaGreatDoor.M
end
section
set_option linter.unusedVariables false
set_option linter.unusedSimpArgs false
namespace Go.Proofs.YtkpkfihaihoaeaaGreatDoor.M
open Go.RowKit
def readyC (W : Web) (s : State) : List ByteArray := if validS W s = true then readyL W s.Runs else []
theorem readyC_yes {W : Web} {s : State} (h : validS W s = true) : readyC W s = readyL W s.Runs := if_pos h
theorem readyC_no {W : Web} {s : State} (h : validS W s = false) : readyC W s = [] := if_neg (by rw [h]; decide)
theorem strs_cnt_len (t : Nat) (xs : List ByteArray) : cnt (strsT t xs) = xs.length := by
 show cnts (xs.flatMap strC) = _
 induction xs with
 | nil => rfl
 | cons x xs ih => rw [List.flatMap_cons, cnts_append, ih, List.length_cons]; simp [strC, cnts, cnt]; omega
theorem readyC_cnt (t : Nat) (W : Web) (s : State) : cnt (strsT t (readyC W s)) ≤ 60 := by
 rw [strs_cnt_len]
 cases h : validS W s with
 | true => obtain ⟨hw, _, hR⟩ := validS_reach h; rw [readyC_yes h]; exact readyL_len hw hR
 | false => rw [readyC_no h]; simp
theorem State.cnt_le (t : Nat) (x : State) : cntl (x.c t) ≤ 6 * x.bk := by
 have h1 := strs_cnt 9 x.Roots
 have h2 := runs_cnt t Run.bk x.Runs (fun r _ => by unfold Run.bk bkS bsOf; omega)
 have e : cntl (x.c t) = cnt (strsT 9 x.Roots) + (cnt (RunsT t x.Runs) + 0) := rfl
 rw [e]
 unfold State.bk Run.bs
 unfold bsOf
 omega
set_option maxRecDepth 100000 in
set_option maxHeartbeats 2000000 in
theorem Ready_calls {tN tS tC t : Nat} (W : Web) (s : State) (w : World) {vs us : List Value} (hW : reps w (W.c tN tS tC) vs) (h : reps w (State.c t s) us) (hz : W.Sm) (hgl : 3 < w.heap.size) (hgt : w.cell? ⟨3, 15, none⟩ = some (.int .u8 4)) :
  Calls Tryz.prog 37 #[.agg vs.toArray, .agg us.toArray] w (MadeV w (strsT 9 (readyC W s))) := by
 obtain ⟨v0, rfl, h0⟩ := Web.ropen hW
 obtain ⟨A, c, rfl, _, _⟩ := rep_len h0
 obtain ⟨u0, u1, rfl, g0, g1⟩ := State.ropen h
 obtain ⟨D, k, rfl, _, _⟩ := rep_len g0
 obtain ⟨B, d, rfl, _, _⟩ := rep_len g1
 replace hW := Asd.mk hW
 replace h := Asd.mk h
 clear h0 g0 g1
 have HB := Asd.mk (below_al (below_al (Below.refl w.heap.size w) (.cells #[.slice A W.Nodes.length c] 34)) (.cells #[.slice D s.Roots.length k, .slice B s.Runs.length d] 38))
 go_enter Tryz.func37, Tryz.ntmps37
 go_wp2_with fail
 refine (load_calls W s _ (hW.out.below HB.out) (h.out.below HB.out) hz (by simp; omega) (cell_below HB.out hgt)).mono ?_
 rintro e w1 ⟨hb, ⟨hv, eg, F, lo, rfl, hlo, hE⟩ | ⟨hv, rfl⟩⟩
 ·have hq := Asd.mk (readyC_yes hv)
  obtain ⟨hw, _, hR⟩ := validS_reach hv
  have hb1 := Asd.mk (below_st HB.out hb)
  replace hE := Asd.mk hE
  replace hR := Asd.mk hR
  clear hb hlo hv
  go_wp2_with fail
  refine (ready_calls W s.Roots s.Runs eg F _ hE.out hw (hR.out.inv hw)).mono ?_
  rintro e w2 ⟨v, rfl, hM, hb⟩
  have hb2 := Asd.mk (below_st hb1.out hb)
  have hL := Asd.mk (hM.lie.mono hb1.out.size)
  clear hb hM
  go_wp2
  go_ret
  rw [hq.out]
  exact ⟨_, rfl, hL.out.made, hb2.out⟩
 ·have hq := Asd.mk (readyC_no hv)
  have hb1 := Asd.mk (below_st HB.out hb)
  clear hb hv
  go_wp2
  go_ret
  rw [hq.out]
  exact ⟨_, rfl, Lie.made (Lie.nil _ _ _ _), hb1.out⟩
set_option maxRecDepth 100000 in
set_option maxHeartbeats 2000000 in
theorem sReady_calls {tN tS tC t : Nat} (W : Web) (s : State) (w : World) {vs us : List Value} (hW : reps w (W.c tN tS tC) vs) (h : reps w (State.c t s) us) (hz : W.Sm) :
  Calls Tryz.prog 36 #[.agg vs.toArray, .agg us.toArray] w (MadeV w (strsT 9 (readyC W s))) := by
 obtain ⟨v0, rfl, h0⟩ := Web.ropen hW
 obtain ⟨A, c, rfl, _, _⟩ := rep_len h0
 obtain ⟨u0, u1, rfl, g0, g1⟩ := State.ropen h
 obtain ⟨D, k, rfl, _, _⟩ := rep_len g0
 obtain ⟨B, d, rfl, _, _⟩ := rep_len g1
 replace hW := Asd.mk hW
 replace h := Asd.mk h
 clear h0 g0 g1
 have HB := Asd.mk (below_al (below_al (Below.refl w.heap.size w) (.cells #[.slice A W.Nodes.length c] 34)) (.cells #[.slice D s.Roots.length k, .slice B s.Runs.length d] 38))
 obtain ⟨g, hg⟩ : ∃ g, validS W s = g := ⟨_, rfl⟩
 go_enter Tryz.func36, Tryz.ntmps36
 go_wp2_with fail
 refine (sValidState_calls W s _ (hW.out.below HB.out) (h.out.below HB.out) hz).mono ?_
 rw [hg]
 rintro e w1 ⟨rfl, hb⟩
 obtain ⟨hcx, hfx⟩ := bcell hb
 have hzz : w.heap.size + 1 < w1.heap.size := by have := hb.size; simp at this; omega
 have hb1 := Asd.mk (below_st HB.out hb)
 have a0 : w1.cell? ⟨w.heap.size, 0, none⟩ = some (.slice A W.Nodes.length c) := by rw [hcx _ _ (by simp; omega)]; go_simp
 have b0 : w1.cell? ⟨w.heap.size + 1, 0, none⟩ = some (.slice D s.Roots.length k) := by rw [hcx _ _ (by simp)]; go_simp
 have b1 : w1.cell? ⟨w.heap.size + 1, 1, none⟩ = some (.slice B s.Runs.length d) := by rw [hcx _ _ (by simp)]; go_simp
 clear hb hcx hfx
 cases g with
 | true =>
  have hq := Asd.mk (readyC_yes hg)
  obtain ⟨hw, _, hR⟩ := validS_reach hg
  replace hR := Asd.mk hR
  clear hg
  go_wp2_with fail
  refine (l4Ready_calls W s _ (hW.out.below hb1.out) (h.out.below hb1.out) hw (hR.out.inv hw)).mono ?_
  rintro e w2 ⟨v, rfl, hM, hb⟩
  have hb2 := Asd.mk (below_st hb1.out hb)
  have hL := Asd.mk (hM.lie.mono hb1.out.size)
  clear hb hM
  go_wp2
  go_ret
  rw [hq.out]
  exact ⟨_, rfl, hL.out.made, hb2.out⟩
 | false =>
  have hq := Asd.mk (readyC_no hg)
  clear hg
  go_wp2
  go_ret
  rw [hq.out]
  exact ⟨_, rfl, Lie.made ((Lie.empty w1 _ _).mono hb1.out.size), by repeat first|with_reducible (first|exact Below.refl _ _|exact hb1.out|refine below_al ?_ _|refine below_dr ?_ _|refine below_d1 ?_)|(with_reducible refine Below.setCell ?_ ?_ _;rotate_left;next => first|(simp;done)|(simp;omega)|omega)⟩
end Go.Proofs.YtkpkfihaihoaeaaGreatDoor.M
end
section
set_option linter.unusedVariables false
set_option linter.unusedSimpArgs false
namespace Go.Proofs.YtkpkfihaihoaeaaGreatDoor.M
open Go.RowKit
def stuckC (W : Web) (s : State) : List ByteArray := if validS W s = true then stuckL W s.Runs else []
theorem stuckC_yes {W : Web} {s : State} (h : validS W s = true) : stuckC W s = stuckL W s.Runs := if_pos h
theorem stuckC_no {W : Web} {s : State} (h : validS W s = false) : stuckC W s = [] := if_neg (by rw [h]; decide)
section
variable (wt : ByteArray → List ByteArray) (N : List ByteArray)
def stkL (i : Nat) : List ByteArray := reachL wt N (N.getD i ⟨#[]⟩) ++ [N.getD i ⟨#[]⟩]
def stkP (i k : Nat) (x : ByteArray) : Prop := x ∈ (N.take i).filter (stuckU wt N) ∨ (x = N.getD i ⟨#[]⟩ ∧ i < N.length ∧ ((stkL wt N i).take k).any (fun y => decide (y ∈ reachL wt N y)) = true)
end
section
variable {wt : ByteArray → List ByteArray} {N : List ByteArray}
theorem getD_at {l : List ByteArray} {i : Nat} (h : i < l.length) : l.getD i ⟨#[]⟩ = l[i] := by rw [List.getD_eq_getElem?_getD, List.getElem?_eq_getElem h]; rfl
theorem stkP_zero (x : ByteArray) : ¬stkP wt N 0 0 x := by unfold stkP; simp
theorem stkP_name {i k : Nat} {x : ByteArray} (h : stkP wt N i k x) : x ∈ N := by
 rcases h with h | ⟨rfl, h, _⟩
 ·exact List.mem_of_mem_take (List.mem_filter.1 h).1
 ·rw [getD_at h]; exact List.getElem_mem h
theorem stkP_yes {i k : Nat} (hi : i < N.length) (hk : k < (stkL wt N i).length) (hy : (stkL wt N i)[k] ∈ reachL wt N (stkL wt N i)[k]) (x : ByteArray) : stkP wt N i (k + 1) x ↔ x = N[i] ∨ stkP wt N i k x := by
 unfold stkP
 rw [List.take_succ_eq_append_getElem hk, List.any_append, getD_at hi]
 simp [hy, hi]
 constructor
 ·rintro (h | h)
  ·exact .inr (.inl h)
  ·exact .inl h
 ·rintro (h | h | h)
  ·exact .inr h
  ·exact .inl h
  ·exact .inr h.1
theorem stkP_no {i k : Nat} (hk : k < (stkL wt N i).length) (hy : (stkL wt N i)[k] ∉ reachL wt N (stkL wt N i)[k]) (x : ByteArray) : stkP wt N i (k + 1) x ↔ stkP wt N i k x := by
 unfold stkP
 rw [List.take_succ_eq_append_getElem hk, List.any_append]
 simp [hy]
theorem stkP_row {i : Nat} (hi : i < N.length) (x : ByteArray) : stkP wt N i (stkL wt N i).length x ↔ stkP wt N (i + 1) 0 x := by
 unfold stkP
 rw [List.take_length, List.take_succ_eq_append_getElem hi, List.filter_append, List.mem_append]
 have e : (stkL wt N i).any (fun y => decide (y ∈ reachL wt N y)) = stuckU wt N N[i] := by unfold stkL stuckU; rw [getD_at hi]
 rw [e, getD_at hi]
 simp [hi]
 cases hs : stuckU wt N N[i] with
 | true =>
  constructor
  ·rintro (h | h)
   ·exact .inl h
   ·exact .inr ⟨h.1, h.1 ▸ hs⟩
  ·rintro (h | h)
   ·exact .inl h
   ·exact .inr ⟨h.1, rfl⟩
 | false =>
  constructor
  ·rintro (h | h)
   ·exact .inl h
   ·cases h.2
  ·rintro (h | h)
   ·exact .inl h
   ·rw [h.1, hs] at h; cases h.2
theorem stkP_end (x : ByteArray) : stkP wt N N.length 0 x ↔ x ∈ N.filter (stuckU wt N) := by unfold stkP; simp
end
theorem reachL_len {wt : ByteArray → List ByteArray} {N : List ByteArray} (hN : ∀ u, ∀ x ∈ wt u, x ∈ N) (ha : ∀ u, Asc (wt u)) (q : ByteArray) : (reachL wt N q).length ≤ N.length :=
 nodup_sub_len (reachF_asc _ (ha q)).nodup (fun x hx => by obtain ⟨y, hy⟩ := ((reachL_mem hN ha q x).1 hx).last; exact hN y x hy)
set_option maxRecDepth 100000 in
set_option maxHeartbeats 8000000 in
theorem sStuck_calls {tN tS tC t : Nat} (W : Web) (s : State) (w : World) {vs us : List Value} (hW : reps w (W.c tN tS tC) vs) (h : reps w (State.c t s) us) (hz : W.Sm) :
  Calls Tryz.prog 52 #[.agg vs.toArray, .agg us.toArray] w (MadeV w (strsT 9 (stuckC W s))) := by
 obtain ⟨v0, rfl, h0⟩ := Web.ropen hW
 obtain ⟨A, c, rfl, _, _⟩ := rep_len h0
 obtain ⟨u0, u1, rfl, g0, g1⟩ := State.ropen h
 obtain ⟨D, k, rfl, _, _⟩ := rep_len g0
 obtain ⟨B, d, rfl, _, _⟩ := rep_len g1
 replace g1 := Asd.mk g1
 replace hW := Asd.mk hW
 replace h := Asd.mk h
 clear h0 g0
 obtain ⟨g, hg⟩ : ∃ g, validS W s = g := ⟨_, rfl⟩
 go_enter Tryz.func52, Tryz.ntmps52
 go_upto_region 2 with (fail)
 obtain ⟨X, eX⟩ : ∃ X : World, X = ((w.alloc (.cells #[.slice A W.Nodes.length c] 34)).alloc (.cells #[.slice D s.Roots.length k, .slice B s.Runs.length d] 38)).alloc (.cells #[] 9) := ⟨_, rfl⟩
 rw [← eX]
 have hbX := Asd.mk (show Below w.heap.size w X from eX ▸ by repeat first|with_reducible (first|exact Below.refl _ _|exact Below.refl _ _|refine below_al ?_ _|refine below_dr ?_ _|refine below_d1 ?_)|(with_reducible refine Below.setCell ?_ ?_ _;rotate_left;next => first|(simp;done)|(simp;omega)|omega))
 have a0 : X.cell? ⟨w.heap.size, 0, none⟩ = some (.slice A W.Nodes.length c) := by rw [eX]; go_simp
 have b0 : X.cell? ⟨w.heap.size + 1, 0, none⟩ = some (.slice D s.Roots.length k) := by rw [eX]; go_simp
 have b1 : X.cell? ⟨w.heap.size + 1, 1, none⟩ = some (.slice B s.Runs.length d) := by rw [eX]; go_simp
 have zX : w.heap.size + 1 < X.heap.size := by rw [eX]; simp
 have hE := Asd.mk (show Lie w.heap.size X (strsT 9 []) (.slice (some ⟨w.heap.size + 1 + 1, 0, none⟩) 0 0) from eX ▸ (Lie.emptyB ((w.alloc (.cells #[.slice A W.Nodes.length c] 34)).alloc (.cells #[.slice D s.Roots.length k, .slice B s.Runs.length d] 38)) 9 1 (by simp)).mono (show w.heap.size ≤ ((w.alloc _).alloc _).heap.size by simp; omega))
 clear eX
 go_wp2_with fail
 refine (sValidState_calls W s _ (hW.out.below hbX.out) (h.out.below hbX.out) hz).mono ?_
 rw [hg]
 rintro e w1 ⟨rfl, hb⟩
 have hb1 := Asd.mk (below_st hbX.out hb)
 replace a0 := cell_below hb a0
 replace b0 := cell_below hb b0
 replace b1 := cell_below hb b1
 replace hE := Asd.mk (hE.out.below hb)
 have zX1 : w.heap.size + 1 < w1.heap.size := by have := hb.size; omega
 clear hb
 cases g with
 | false =>
  have hq := Asd.mk (stuckC_no hg)
  clear hg
  go_wp2
  go_ret
  rw [hq.out]
  exact ⟨_, rfl, hE.out.made, hb1.out⟩
 | true =>
  have hq := Asd.mk (stuckC_yes hg)
  obtain ⟨hw, _, hR⟩ := validS_reach hg
  have hI := Asd.mk (hR.inv hw)
  have hRl : s.Runs.length ≤ 60 := by have := hI.out.length hw; have := (checkWeb_ok hw).1; omega
  obtain ⟨N, hNe⟩ : ∃ N, s.Runs.map Run.Name = N := ⟨_, rfl⟩
  obtain ⟨wt, hwt⟩ : ∃ wt, waitsL W s.Runs = wt := ⟨_, rfl⟩
  have hNl := Asd.mk (show N.length = s.Runs.length by rw [← hNe, List.length_map])
  have hN := Asd.mk (show ∀ u, ∀ y ∈ wt u, y ∈ N by rw [← hNe, ← hwt]; exact fun u y hy => waits_names u y hy)
  have hA := Asd.mk (show ∀ u, Asc (wt u) by rw [← hwt]; exact waits_asc W s.Runs)
  have hNa := Asd.mk (show Asc N from hNe ▸ hI.out.asc)
  have hst := Asd.mk (show stuckL W s.Runs = N.filter (stuckU wt N) by unfold stuckL; rw [hNe, hwt])
  have hre := Asd.mk (show ∀ u, reachL (waitsL W s.Runs) (s.Runs.map Run.Name) u = reachL wt N u from fun u => by rw [hNe, hwt])
  have hNk := Asd.mk (show ∀ i (h : i < N.length) (h' : i < s.Runs.length), N[i] = s.Runs[i].Name by subst hNe; intro i h h'; simp)
  clear hg hwt hR hNe
  go_wp2
  go_loopw [5, 6] (fun s5 s6 wr => ∃ (i : Nat) (o : List ByteArray), i ≤ s.Runs.length ∧ s6 = .int .i64 i ∧ Asc o ∧ (∀ y, y ∈ o ↔ stkP wt N i 0 y) ∧ Lie w.heap.size wr (strsT 9 o) s5 ∧ Below w1.heap.size w1 wr) (fun _ s6 _ => s.Runs.length - (intOf s6).toNat)
  case atStart => exact ⟨0, [], by omega, rfl, List.Pairwise.nil, fun y => ⟨fun hy => (by cases hy), fun hy => absurd hy (stkP_zero y)⟩, hE.out, Below.refl _ _⟩
  case round =>
   obtain ⟨i, o, hi, rfl, hoa, hom, hL, hbr⟩ := hrel
   obtain ⟨Al, cl, rfl, _, _⟩ := hL.slice
   have hbw := Asd.mk (below_st hb1.out hbr)
   have a0r := cell_below hbr a0
   have b0r := cell_below hbr b0
   have b1r := cell_below hbr b1
   have zr : w.heap.size + 1 < wr.heap.size := by have := hbr.size; omega
   replace hL := Asd.mk hL
   replace hbr := Asd.mk hbr
   replace hoa := Asd.mk hoa
   replace hom := Asd.mk hom
   by_cases hlt : i < s.Runs.length
   ·have hiN : i < N.length := by rw [hNl.out]; exact hlt
    obtain ⟨ax, cx, v6, he, k0, _⟩ := Run.elem (g1.out.below hbw.out) hlt
    cases he
    rw [← hNk.out i hiN hlt] at k0
    obtain ⟨p, hp⟩ : ∃ p, N[i] = p := ⟨_, rfl⟩
    rw [hp] at k0
    have hsl := Asd.mk (show stkL wt N i = reachL wt N p ++ [p] by unfold stkL; rw [getD_at hiN, hp])
    have hiz : (i : Int) < (s.Runs.length : Int) := by omega
    have hkeep := Asd.mk (show ∀ Y, Below wr.heap.size wr Y → (Below wr.heap.size wr Y ∧ Y.cell? ⟨w.heap.size, 0, none⟩ = some (.slice A W.Nodes.length c) ∧ Y.cell? ⟨w.heap.size + 1, 0, none⟩ = some (.slice D s.Roots.length k) ∧ Y.cell? ⟨w.heap.size + 1, 1, none⟩ = some (.slice (some ax) s.Runs.length d) ∧ Y.cell? (ax.add (i * 7)) = some (.string p)) from fun Y hb => ⟨hb, cell_below hb a0r, cell_below hb b0r, cell_below hb b1r, cell_below hb k0⟩)
    replace hp := Asd.mk hp
    go_upto_region 7 with (fail)
    go_cut [7] (fun s7 wx => Lie wr.heap.size wx (strsT 9 (stkL wt N i)) s7 ∧ Below wr.heap.size wr wx)
    case first =>
     have s_0 : Below wr.heap.size wr wr.drew := (Below.refl _ _).drew
     refine wp_region_held_drew (S := fun Y => Below wr.heap.size wr Y ∧ Y.cell? ⟨w.heap.size, 0, none⟩ = some (.slice A W.Nodes.length c) ∧ Y.cell? ⟨w.heap.size + 1, 0, none⟩ = some (.slice D s.Roots.length k) ∧ Y.cell? ⟨w.heap.size + 1, 1, none⟩ = some (.slice (some ax) s.Runs.length d) ∧ Y.cell? (ax.add (i * 7)) = some (.string p)) (by kernel_rfl) (hkeep.out _ s_0) (fun hHeld => ?_)
     (((refine wH 0 (v:=?_) rfl (by kernel_rfl) (fun _ _ _ h => h) (by rfl) ?_ (by assumption) ?_;rotate_left;next => ((intro X hX;(try dsimp only at hX);go_simp);try with_reducible rfl));try simp only [Act.put,List.getElem_toArray,List.getElem_cons_succ,List.getElem_cons_zero,List.setIfInBounds_toArray,List.set_cons_zero,List.set_cons_succ]); ((refine wH 1 (v:=?_) rfl (by kernel_rfl) (fun _ _ _ h => h) (by rfl) ?_ (by assumption) ?_;rotate_left;next => ((intro X hX;(try dsimp only at hX);go_simp);try with_reducible rfl));try simp only [Act.put,List.getElem_toArray,List.getElem_cons_succ,List.getElem_cons_zero,List.setIfInBounds_toArray,List.set_cons_zero,List.set_cons_succ]); ((refine wH 2 (v:=?_) rfl (by kernel_rfl) (fun _ _ _ h => h) (by rfl) ?_ (by assumption) ?_;rotate_left;next => ((intro X hX;(try dsimp only at hX);go_simp);try with_reducible rfl));try simp only [Act.put,List.getElem_toArray,List.getElem_cons_succ,List.getElem_cons_zero,List.setIfInBounds_toArray,List.set_cons_zero,List.set_cons_succ]); ((refine wH 3 (v:=?_) rfl (by kernel_rfl) (fun _ _ _ h => h) (by rfl) ?_ (by assumption) ?_;rotate_left;next => ((intro X hX;(try dsimp only at hX);go_simp);try with_reducible rfl));try simp only [Act.put,List.getElem_toArray,List.getElem_cons_succ,List.getElem_cons_zero,List.setIfInBounds_toArray,List.set_cons_zero,List.set_cons_succ]); ((refine wH 4 (v:=?_) rfl (by kernel_rfl) (fun _ _ _ h => h) (by rfl) ?_ (by assumption) ?_;rotate_left;next => ((intro X hX;(try dsimp only at hX);go_simp);try with_reducible rfl));try simp only [Act.put,List.getElem_toArray,List.getElem_cons_succ,List.getElem_cons_zero,List.setIfInBounds_toArray,List.set_cons_zero,List.set_cons_succ]); ((refine wH 5 (v:=?_) rfl (by kernel_rfl) (fun _ _ _ h => h) (by rfl) ?_ (by assumption) ?_;rotate_left;next => ((intro X hX;(try dsimp only at hX);go_simp);try with_reducible rfl));try simp only [Act.put,List.getElem_toArray,List.getElem_cons_succ,List.getElem_cons_zero,List.setIfInBounds_toArray,List.set_cons_zero,List.set_cons_succ]); ((refine wH 6 (v:=?_) rfl (by kernel_rfl) (fun _ _ _ h => h) (by rfl) ?_ (by assumption) ?_;rotate_left;next => ((intro X hX;(try dsimp only at hX);go_simp);try with_reducible rfl));try simp only [Act.put,List.getElem_toArray,List.getElem_cons_succ,List.getElem_cons_zero,List.setIfInBounds_toArray,List.set_cons_zero,List.set_cons_succ]); ((refine wH 7 (v:=?_) rfl (by kernel_rfl) (fun _ _ _ h => h) (by rfl) ?_ (by assumption) ?_;rotate_left;next => ((intro X hX;(try dsimp only at hX);go_simp);try with_reducible rfl));try simp only [Act.put,List.getElem_toArray,List.getElem_cons_succ,List.getElem_cons_zero,List.setIfInBounds_toArray,List.set_cons_zero,List.set_cons_succ]); ((refine wH 9 (v:=?_) rfl (by kernel_rfl) (fun _ _ _ h => h) (by rfl) ?_ (by assumption) ?_;rotate_left;next => ((intro X hX;(try dsimp only at hX);go_simp);try with_reducible rfl));try simp only [Act.put,List.getElem_toArray,List.getElem_cons_succ,List.getElem_cons_zero,List.setIfInBounds_toArray,List.set_cons_zero,List.set_cons_succ]); ((refine wH 10 (v:=?_) rfl (by kernel_rfl) (fun _ _ _ h => h) (by rfl) ?_ (by assumption) ?_;rotate_left;next => ((intro X hX;(try dsimp only at hX);go_simp);try with_reducible rfl));try simp only [Act.put,List.getElem_toArray,List.getElem_cons_succ,List.getElem_cons_zero,List.setIfInBounds_toArray,List.set_cons_zero,List.set_cons_succ]); ((refine wH 11 (v:=?_) rfl (by kernel_rfl) (fun _ _ _ h => h) (by rfl) ?_ (by assumption) ?_;rotate_left;next => ((intro X hX;(try dsimp only at hX);go_simp);try with_reducible rfl));try simp only [Act.put,List.getElem_toArray,List.getElem_cons_succ,List.getElem_cons_zero,List.setIfInBounds_toArray,List.set_cons_zero,List.set_cons_succ]); ((refine wH 12 (v:=?_) rfl (by kernel_rfl) (fun _ _ _ h => h) (by rfl) ?_ (by assumption) ?_;rotate_left;next => ((intro X hX;(try dsimp only at hX);go_simp);try with_reducible rfl));try simp only [Act.put,List.getElem_toArray,List.getElem_cons_succ,List.getElem_cons_zero,List.setIfInBounds_toArray,List.set_cons_zero,List.set_cons_succ]); ((refine wH 13 (v:=?_) rfl (by kernel_rfl) (fun _ _ _ h => h) (by rfl) ?_ (by assumption) ?_;rotate_left;next => ((intro X hX;(try dsimp only at hX);go_simp);try with_reducible rfl));try simp only [Act.put,List.getElem_toArray,List.getElem_cons_succ,List.getElem_cons_zero,List.setIfInBounds_toArray,List.set_cons_zero,List.set_cons_succ]); ((refine wH 14 (v:=?_) rfl (by kernel_rfl) (fun _ _ _ h => h) (by rfl) ?_ (by assumption) ?_;rotate_left;next => ((intro X hX;(try dsimp only at hX);go_simp);try with_reducible rfl));try simp only [Act.put,List.getElem_toArray,List.getElem_cons_succ,List.getElem_cons_zero,List.setIfInBounds_toArray,List.set_cons_zero,List.set_cons_succ]))
     (refine wpAnyH_ready (rs := [8, 15]) (by kernel_rfl) (by simp) ?_; refine AllReadyH.cons rfl (fun K hK => ?_) (AllReadyH.cons rfl (fun K hK => ?_) AllReadyH.nil))
     ·go_simp
      refine (l6Reach_calls W s p _ (hW.out.below (hbw.out.trans ((show Below wr.heap.size wr _ from by repeat first|with_reducible (first|exact Below.refl _ _|exact s_0|refine below_al ?_ _|refine below_dr ?_ _|refine below_d1 ?_)|(with_reducible refine Below.setCell ?_ ?_ _;rotate_left;next => first|(simp;done)|(simp;omega)|omega)).mono hbw.out.size))) (h.out.below (hbw.out.trans ((show Below wr.heap.size wr _ from by repeat first|with_reducible (first|exact Below.refl _ _|exact s_0|refine below_al ?_ _|refine below_dr ?_ _|refine below_d1 ?_)|(with_reducible refine Below.setCell ?_ ?_ _;rotate_left;next => first|(simp;done)|(simp;omega)|omega)).mono hbw.out.size))) hw hI.out).mono ?_
      rw [hre.out]
      rintro e' w5 ⟨v5, rfl, hM, hb⟩
      have hL5 := Asd.mk (show Lie wr.heap.size w5 (strsT 9 (reachL wt N p)) v5 from hM.lie)
      have hb5 := Asd.mk (below_st (show Below wr.heap.size wr _ from by repeat first|with_reducible (first|exact Below.refl _ _|exact s_0|refine below_al ?_ _|refine below_dr ?_ _|refine below_d1 ?_)|(with_reducible refine Below.setCell ?_ ?_ _;rotate_left;next => first|(simp;done)|(simp;omega)|omega)) hb)
      obtain ⟨A5, c5, rfl, _, _⟩ := hL5.out.slice
      have hrl := Asd.mk (reachL_len hN.out hA.out p)
      clear hb hM s_0
      have s_0 := hb5.out
      refine hK.out _ _ (hkeep.out _ s_0) (fun hHeld => ?_)
      clear hK K
      (try simp only [Act.put, List.setIfInBounds_toArray, List.set_cons_zero, List.set_cons_succ])
      (refine wpAnyH_ready (rs := [15]) (by kernel_rfl) (by simp) ?_; refine AllReadyH.cons rfl (fun K hK => ?_) AllReadyH.nil)
      go_simp
      have s_1 := below_al s_0 (.cells #[.string p] 9)
      refine hK.out _ _ (hkeep.out _ s_1) (fun hHeld => ?_)
      clear hK K
      (try simp only [Act.put, List.setIfInBounds_toArray, List.set_cons_zero, List.set_cons_succ])
      (refine wpAnyH_ready (rs := [16]) (by kernel_rfl) (by simp) ?_; refine AllReadyH.cons rfl (fun K hK => ?_) AllReadyH.nil)
      refine step_appStr (by rfl) (by rfl) (by rfl) (lo := wr.heap.size) (wr := w5) hb5.out.size hL5.out (show Below w5.heap.size w5 (w5.alloc (.cells #[.string p] 9)) from by repeat first|with_reducible (first|exact Below.refl _ _|exact Below.refl _ _|refine below_al ?_ _|refine below_dr ?_ _|refine below_d1 ?_)|(with_reducible refine Below.setCell ?_ ?_ _;rotate_left;next => first|(simp;done)|(simp;omega)|omega)) (by rfl) (show (w5.alloc (.cells #[.string p] 9)).heap[w5.heap.size]? = _ from heap_alloc_new w5 _) (by have h1 := hrl.out; have h2 := hNl.out; omega) ?_
      intro v7 w7 hL7 hF7
      have hb7 := Far.trans s_1 hF7 (Nat.le_refl _) s_1.size
      refine hK.out _ _ (hkeep.out _ hb7) (fun hHeld => ?_)
      clear hK K
      (((refine wH 17 (v:=?_) rfl (by kernel_rfl) (fun _ _ _ h => h) (by rfl) ?_ (by assumption) ?_;rotate_left;next => ((intro X hX;(try dsimp only at hX);go_simp);try with_reducible rfl));try simp only [Act.put,List.getElem_toArray,List.getElem_cons_succ,List.getElem_cons_zero,List.setIfInBounds_toArray,List.set_cons_zero,List.set_cons_succ]))
      refine wpAnyH_done (by kernel_rfl) ?_ _
      go_wp2_with fail
      go_meet
      exact ⟨by rw [hsl.out]; exact hL7, hb7⟩
     ·go_simp
      have s_1 := below_al s_0 (.cells #[.string p] 9)
      refine hK.out _ _ (hkeep.out _ s_1) (fun hHeld => ?_)
      clear hK K
      (try simp only [Act.put, List.setIfInBounds_toArray, List.set_cons_zero, List.set_cons_succ])
      (refine wpAnyH_ready (rs := [8]) (by kernel_rfl) (by simp) ?_; refine AllReadyH.cons rfl (fun K hK => ?_) AllReadyH.nil)
      go_simp
      refine (l6Reach_calls W s p _ (hW.out.below (hbw.out.trans (s_1.mono hbw.out.size))) (h.out.below (hbw.out.trans (s_1.mono hbw.out.size))) hw hI.out).mono ?_
      rw [hre.out]
      rintro e' w5 ⟨v5, rfl, hM, hb⟩
      have hL5 := Asd.mk (show Lie (wr.heap.size + 1) w5 (strsT 9 (reachL wt N p)) v5 from hM.lie.mono (by simp))
      have hb5 := Asd.mk (below_st s_1 hb)
      have gB5 := Asd.mk (show w5.heap[wr.heap.size]? = some (.cells #[.string p] 9 (0, 0)) from (hb.block _ (by simp)).trans (heap_alloc_new wr.drew (.cells #[.string p] 9)))
      obtain ⟨A5, c5, rfl, _, _⟩ := hL5.out.slice
      have hrl := Asd.mk (reachL_len hN.out hA.out p)
      have z5 : wr.heap.size + 1 ≤ w5.heap.size := lt_of_heap gB5.out
      clear hb hM s_0 s_1
      have s_0 := hb5.out
      refine hK.out _ _ (hkeep.out _ s_0) (fun hHeld => ?_)
      clear hK K
      (try simp only [Act.put, List.setIfInBounds_toArray, List.set_cons_zero, List.set_cons_succ])
      (refine wpAnyH_ready (rs := [16]) (by kernel_rfl) (by simp) ?_; refine AllReadyH.cons rfl (fun K hK => ?_) AllReadyH.nil)
      refine step_appStr (by rfl) (by rfl) (by rfl) (lo := wr.heap.size + 1) (wr := w5) z5 hL5.out (Below.refl _ _) (by rfl) gB5.out (by have h1 := hrl.out; have h2 := hNl.out; omega) ?_
      intro v7 w7 hL7 hF7
      have hb7 := Far.trans s_0 hF7 (by omega) s_0.size
      refine hK.out _ _ (hkeep.out _ hb7) (fun hHeld => ?_)
      clear hK K
      (((refine wH 17 (v:=?_) rfl (by kernel_rfl) (fun _ _ _ h => h) (by rfl) ?_ (by assumption) ?_;rotate_left;next => ((intro X hX;(try dsimp only at hX);go_simp);try with_reducible rfl));try simp only [Act.put,List.getElem_toArray,List.getElem_cons_succ,List.getElem_cons_zero,List.setIfInBounds_toArray,List.set_cons_zero,List.set_cons_succ]))
      refine wpAnyH_done (by kernel_rfl) ?_ _
      go_wp2_with fail
      go_meet
      exact ⟨by rw [hsl.out]; exact hL7.mono (by omega), hb7⟩
    case rest =>
     obtain ⟨hLs, hbc⟩ := hcut
     obtain ⟨sl, hsl2⟩ : ∃ sl, stkL wt N i = sl := ⟨_, rfl⟩
     rw [hsl2] at hLs
     obtain ⟨As, cs, rfl, _, _⟩ := hLs.slice
     obtain ⟨Z, eZ⟩ : ∃ Z, Z = wc := ⟨_, rfl⟩
     rw [← eZ] at hLs hbc ⊢
     clear eZ hkeep
     have hrs := Asd.mk hLs.rep
     have hslen := Asd.mk (show sl.length ≤ 61 by rw [← hsl2, hsl.out, List.length_append]; have h1 := reachL_len hN.out hA.out p; have h2 := hNl.out; simp only [List.length_cons, List.length_nil]; omega)
     have hyes := Asd.mk (fun kk hk hy => stkP_yes (wt := wt) (N := N) (i := i) (k := kk) hiN hk hy)
     have hno := Asd.mk (fun kk hk hy => stkP_no (wt := wt) (N := N) (i := i) (k := kk) hk hy)
     have hrow := Asd.mk (stkP_row (wt := wt) hiN)
     rw [hp.out] at hyes
     simp only [hsl2] at hyes hno hrow
     have hLZ := Asd.mk (hL.out.below hbc)
     have hbZ := Asd.mk (below_st hbr.out hbc)
     have hbZw := Asd.mk (below_st hbw.out hbc)
     replace a0r := cell_below hbc a0r
     replace b0r := cell_below hbc b0r
     replace b1r := cell_below hbc b1r
     replace k0 := cell_below hbc k0
     have zZ : w.heap.size + 1 < Z.heap.size := by have := hbc.size; omega
     clear hbc hLs hsl
     go_wp2
     go_loopw [5, 8] (fun s5 s8 wy => ∃ (kk : Nat) (o : List ByteArray), kk ≤ sl.length ∧ s8 = .int .i64 kk ∧ Asc o ∧ (∀ y, y ∈ o ↔ stkP wt N i kk y) ∧ Lie w.heap.size wy (strsT 9 o) s5 ∧ Below Z.heap.size Z wy) (fun _ s8 _ => sl.length - (intOf s8).toNat)
     case atStart => exact ⟨0, o, by omega, rfl, hoa.out, hom.out, hLZ.out, Below.refl _ _⟩
     case round =>
      obtain ⟨kk, o2, hkk, rfl, hoa2, hom2, hL2, hby⟩ := hrel
      obtain ⟨Ao, co, rfl, _, _⟩ := hL2.slice
      have hbyw := Asd.mk (below_st hbZw.out hby)
      have ho2 := Asd.mk (nodup_sub_len hoa2.nodup (fun y hy => stkP_name ((hom2 y).1 hy)))
      replace hL2 := Asd.mk hL2
      by_cases hlt2 : kk < sl.length
      ·obtain ⟨al, c', he, hcell⟩ := str_elem (hrs.out.below hby) hlt2
       cases he
       obtain ⟨y, hy⟩ : ∃ y, sl[kk] = y := ⟨_, rfl⟩
       rw [hy] at hcell
       have hyes2 := Asd.mk (hyes.out kk hlt2)
       have hno2 := Asd.mk (hno.out kk hlt2)
       rw [hy] at hyes2 hno2
       have a0y := cell_below hby a0r
       have b0y := cell_below hby b0r
       have b1y := cell_below hby b1r
       have k0y := cell_below hby k0
       have zy : w.heap.size + 1 < wr.heap.size := by have := hby.size; omega
       replace hoa2 := Asd.mk hoa2
       replace hom2 := Asd.mk hom2
       replace hby := Asd.mk hby
       have hkeep := Asd.mk (show ∀ Y, Below wr.heap.size wr Y → (Below wr.heap.size wr Y ∧ Y.cell? ⟨w.heap.size, 0, none⟩ = some (.slice A W.Nodes.length c) ∧ Y.cell? ⟨w.heap.size + 1, 0, none⟩ = some (.slice D s.Roots.length k) ∧ Y.cell? ⟨w.heap.size + 1, 1, none⟩ = some (.slice (some ax) s.Runs.length d) ∧ Y.cell? (al.add kk) = some (.string y)) from fun Y hb => ⟨hb, cell_below hb a0y, cell_below hb b0y, cell_below hb b1y, cell_below hb hcell⟩)
       have s_0 : Below wr.heap.size wr wr.drew := (Below.refl _ _).drew
       go_upto_region 11 with (fail)
       refine wp_region_held_drew (S := fun Y => Below wr.heap.size wr Y ∧ Y.cell? ⟨w.heap.size, 0, none⟩ = some (.slice A W.Nodes.length c) ∧ Y.cell? ⟨w.heap.size + 1, 0, none⟩ = some (.slice D s.Roots.length k) ∧ Y.cell? ⟨w.heap.size + 1, 1, none⟩ = some (.slice (some ax) s.Runs.length d) ∧ Y.cell? (al.add kk) = some (.string y)) (by kernel_rfl) (hkeep.out _ s_0) (fun hHeld => ?_)
       (((refine wH 0 (v:=?_) rfl (by kernel_rfl) (fun _ _ _ h => h) (by rfl) ?_ (by assumption) ?_;rotate_left;next => ((intro X hX;(try dsimp only at hX);go_simp);try with_reducible rfl));try simp only [Act.put,List.getElem_toArray,List.getElem_cons_succ,List.getElem_cons_zero,List.setIfInBounds_toArray,List.set_cons_zero,List.set_cons_succ]); ((refine wH 1 (v:=?_) rfl (by kernel_rfl) (fun _ _ _ h => h) (by rfl) ?_ (by assumption) ?_;rotate_left;next => ((intro X hX;(try dsimp only at hX);go_simp);try with_reducible rfl));try simp only [Act.put,List.getElem_toArray,List.getElem_cons_succ,List.getElem_cons_zero,List.setIfInBounds_toArray,List.set_cons_zero,List.set_cons_succ]); ((refine wH 2 (v:=?_) rfl (by kernel_rfl) (fun _ _ _ h => h) (by rfl) ?_ (by assumption) ?_;rotate_left;next => ((intro X hX;(try dsimp only at hX);go_simp);try with_reducible rfl));try simp only [Act.put,List.getElem_toArray,List.getElem_cons_succ,List.getElem_cons_zero,List.setIfInBounds_toArray,List.set_cons_zero,List.set_cons_succ]); ((refine wH 3 (v:=?_) rfl (by kernel_rfl) (fun _ _ _ h => h) (by rfl) ?_ (by assumption) ?_;rotate_left;next => ((intro X hX;(try dsimp only at hX);go_simp);try with_reducible rfl));try simp only [Act.put,List.getElem_toArray,List.getElem_cons_succ,List.getElem_cons_zero,List.setIfInBounds_toArray,List.set_cons_zero,List.set_cons_succ]); ((refine wH 4 (v:=?_) rfl (by kernel_rfl) (fun _ _ _ h => h) (by rfl) ?_ (by assumption) ?_;rotate_left;next => ((intro X hX;(try dsimp only at hX);go_simp);try with_reducible rfl));try simp only [Act.put,List.getElem_toArray,List.getElem_cons_succ,List.getElem_cons_zero,List.setIfInBounds_toArray,List.set_cons_zero,List.set_cons_succ]); ((refine wH 5 (v:=?_) rfl (by kernel_rfl) (fun _ _ _ h => h) (by rfl) ?_ (by assumption) ?_;rotate_left;next => ((intro X hX;(try dsimp only at hX);go_simp);try with_reducible rfl));try simp only [Act.put,List.getElem_toArray,List.getElem_cons_succ,List.getElem_cons_zero,List.setIfInBounds_toArray,List.set_cons_zero,List.set_cons_succ]); ((refine wH 7 (v:=?_) rfl (by kernel_rfl) (fun _ _ _ h => h) (by rfl) ?_ (by assumption) ?_;rotate_left;next => ((intro X hX;(try dsimp only at hX);go_simp);try with_reducible rfl));try simp only [Act.put,List.getElem_toArray,List.getElem_cons_succ,List.getElem_cons_zero,List.setIfInBounds_toArray,List.set_cons_zero,List.set_cons_succ]); ((refine wH 8 (v:=?_) rfl (by kernel_rfl) (fun _ _ _ h => h) (by rfl) ?_ (by assumption) ?_;rotate_left;next => ((intro X hX;(try dsimp only at hX);go_simp);try with_reducible rfl));try simp only [Act.put,List.getElem_toArray,List.getElem_cons_succ,List.getElem_cons_zero,List.setIfInBounds_toArray,List.set_cons_zero,List.set_cons_succ]); ((refine wH 9 (v:=?_) rfl (by kernel_rfl) (fun _ _ _ h => h) (by rfl) ?_ (by assumption) ?_;rotate_left;next => ((intro X hX;(try dsimp only at hX);go_simp);try with_reducible rfl));try simp only [Act.put,List.getElem_toArray,List.getElem_cons_succ,List.getElem_cons_zero,List.setIfInBounds_toArray,List.set_cons_zero,List.set_cons_succ]); ((refine wH 10 (v:=?_) rfl (by kernel_rfl) (fun _ _ _ h => h) (by rfl) ?_ (by assumption) ?_;rotate_left;next => ((intro X hX;(try dsimp only at hX);go_simp);try with_reducible rfl));try simp only [Act.put,List.getElem_toArray,List.getElem_cons_succ,List.getElem_cons_zero,List.setIfInBounds_toArray,List.set_cons_zero,List.set_cons_succ]))
       (refine wpAnyH_ready (rs := [6]) (by kernel_rfl) (by simp) ?_; refine AllReadyH.cons rfl (fun K hK => ?_) AllReadyH.nil)
       go_simp
       refine (l6Reach_calls W s y _ (hW.out.below (hbyw.out.trans ((show Below wr.heap.size wr _ from by repeat first|with_reducible (first|exact Below.refl _ _|exact s_0|refine below_al ?_ _|refine below_dr ?_ _|refine below_d1 ?_)|(with_reducible refine Below.setCell ?_ ?_ _;rotate_left;next => first|(simp;done)|(simp;omega)|omega)).mono hbyw.out.size))) (h.out.below (hbyw.out.trans ((show Below wr.heap.size wr _ from by repeat first|with_reducible (first|exact Below.refl _ _|exact s_0|refine below_al ?_ _|refine below_dr ?_ _|refine below_d1 ?_)|(with_reducible refine Below.setCell ?_ ?_ _;rotate_left;next => first|(simp;done)|(simp;omega)|omega)).mono hbyw.out.size))) hw hI.out).mono ?_
       rw [hre.out]
       rintro e' w5 ⟨v5, rfl, ⟨F5, o5, _, _⟩, hb⟩
       have hr5 := Asd.mk o5.rep
       have hb5 := Asd.mk (below_st (show Below wr.heap.size wr _ from by repeat first|with_reducible (first|exact Below.refl _ _|exact s_0|refine below_al ?_ _|refine below_dr ?_ _|refine below_d1 ?_)|(with_reducible refine Below.setCell ?_ ?_ _;rotate_left;next => first|(simp;done)|(simp;omega)|omega)) hb)
       clear hb o5 s_0
       have s_0 := hb5.out
       refine hK.out _ _ (hkeep.out _ s_0) (fun hHeld => ?_)
       clear hK K
       (refine wpAnyH_ready (rs := [11]) (by kernel_rfl) (by simp) ?_; refine AllReadyH.cons rfl (fun K hK => ?_) AllReadyH.nil)
       go_simp
       refine (l6Has_calls _ y _ _ hr5.out).mono ?_
       rintro e' w6 ⟨rfl, rfl⟩
       refine hK.out _ _ (hkeep.out _ s_0) (fun hHeld => ?_)
       clear hK K
       refine wpAnyH_done (by kernel_rfl) ?_ _
       have hb5Z := Asd.mk (below_st hby.out hb5.out)
       have hb5w := Asd.mk (below_st hbyw.out hb5.out)
       have hL5 := Asd.mk (hL2.out.below hb5.out)
       replace b1y := cell_below hb5.out b1y
       replace k0y := cell_below hb5.out k0y
       have zy5 : w.heap.size + 1 < w5.heap.size := by have := hb5.out.size; omega
       clear hkeep hHeld s_0 a0y b0y hcell
       by_cases hm : y ∈ reachL wt N y
       ·rw [decide_eq_true hm]
        have hx2 := Asd.mk (hyes2.out hm)
        clear hyes2 hno2
        go_wp2_with fail
        refine (l6Put_calls _ p _ _ (hL5.out.rep.below (by repeat first|with_reducible (first|exact Below.refl _ _|exact Below.refl _ _|refine below_al ?_ _|refine below_dr ?_ _|refine below_d1 ?_)|(with_reducible refine Below.setCell ?_ ?_ _;rotate_left;next => first|(simp;done)|(simp;omega)|omega))) (by have h1 := ho2.out; have h2 := hNl.out; omega)).mono ?_
        rintro e' w9 ⟨v9, rfl, hb, hv9⟩
        have hb9 : Below w5.heap.size w5 w9 := by repeat first|with_reducible (first|exact Below.refl _ _|exact hb|refine below_al ?_ _|refine below_dr ?_ _|refine below_d1 ?_)|(with_reducible refine Below.setCell ?_ ?_ _;rotate_left;next => first|(simp;done)|(simp;omega)|omega)
        have hL9 : Asd (Lie w.heap.size w9 (strsT 9 (ins1 o2 p)) v9) := Asd.mk (by
         rcases hv9 with ⟨rfl, h1⟩ | h1
         ·rw [h1]; exact hL5.out.below hb9
         ·exact h1.lie.mono hb5w.out.size)
        have hb97 := Asd.mk (below_st hb5Z.out hb9)
        clear hb hv9 hb9
        go_wp2
        go_roundw
        case rel => exact ⟨kk + 1, ins1 o2 p, by omega, by go_num, ins1_asc hoa2.out, fun z => by rw [mem_ins1, hom2.out, hx2.out], hL9.out, hb97.out⟩
        case measure => simp [intOf]; omega
       ·rw [decide_eq_false hm]
        have hx2 := Asd.mk (hno2.out hm)
        clear hyes2 hno2
        go_wp2
        go_roundw
        case rel => exact ⟨kk + 1, o2, by omega, by go_num, hoa2.out, fun z => by rw [hom2.out, hx2.out], hL5.out, hb5Z.out⟩
        case measure => simp [intOf]; omega
      ·obtain rfl : kk = sl.length := by omega
       have hb9 := Asd.mk (below_st hbZ.out hby)
       replace hoa2 := Asd.mk hoa2
       have hom3 := Asd.mk (fun y => (hom2 y).trans (hrow.out y))
       clear hby hom2
       go_wp2
       go_roundw
       case rel => exact ⟨i + 1, o2, by omega, by go_num, hoa2.out, hom3.out, hL2.out, hb9.out⟩
       case measure => simp [intOf]; omega
   ·obtain rfl : i = s.Runs.length := by omega
    have e9 := Asd.mk (show o = stuckL W s.Runs from asc_ext hoa.out (hst.out ▸ filter_asc hNa.out _) (fun y => by rw [hom.out, hst.out, ← hNl.out, stkP_end]))
    go_wp2
    go_ret
    rw [hq.out, ← e9.out]
    exact ⟨_, rfl, hL.out.made, hbw.out⟩
end Go.Proofs.YtkpkfihaihoaeaaGreatDoor.M
end
section
set_option linter.unusedVariables false
set_option linter.unusedSimpArgs false
namespace Go.Proofs.YtkpkfihaihoaeaaGreatDoor.M
open Go.RowKit
def anyTo (l keys : List ByteArray) (j : Nat) : Bool := (l.take j).any fun x => decide (x ∈ keys)
theorem anyTo_zero (l keys : List ByteArray) : anyTo l keys 0 = false := rfl
theorem anyTo_succ {l keys : List ByteArray} {j : Nat} (h : j < l.length) : anyTo l keys (j + 1) = (anyTo l keys j || decide (l[j] ∈ keys)) := by
 unfold anyTo
 rw [List.take_succ_eq_append_getElem h, List.any_append]; simp
theorem anyTo_end {l keys : List ByteArray} : anyTo l keys l.length = true ↔ ∃ x ∈ l, x ∈ keys := by
 unfold anyTo
 rw [List.take_length, List.any_eq_true]
 simp
/-- names that are left: all that are stuck are among them -/
structure LeftI (wt : ByteArray → List ByteArray) (N keys : List ByteArray) : Prop where
 nodup : keys.Nodup
 names : ∀ q ∈ keys, q ∈ N
 stuck : ∀ q ∈ N, stuckU wt N q = true → q ∈ keys
theorem LeftI.drop {wt : ByteArray → List ByteArray} {N keys : List ByteArray} (hN : ∀ u, ∀ x ∈ wt u, x ∈ N) (ha : ∀ u, Asc (wt u)) (h : LeftI wt N keys) {q : ByteArray} (hq : ¬∃ x ∈ wt q, x ∈ keys) : LeftI wt N (dropN keys q) := by
 refine ⟨dropN_nodup h.nodup q, fun x hx => h.names x (mem_dropN.1 hx).1, fun x hx hs => mem_dropN.2 ⟨h.stuck x hx hs, ?_⟩⟩
 rintro rfl
 obtain ⟨y, hy, hs2⟩ := stuck_closed hN ha hs
 exact hq ⟨y, hy, h.stuck y (hN _ y hy) hs2⟩
theorem LeftI.mem {wt : ByteArray → List ByteArray} {N keys : List ByteArray} (hN : ∀ u, ∀ x ∈ wt u, x ∈ N) (ha : ∀ u, Asc (wt u)) (h : LeftI wt N keys) (hc : ∀ q ∈ keys, ∃ x ∈ wt q, x ∈ keys) (x : ByteArray) : x ∈ keys ↔ x ∈ N.filter (stuckU wt N) := by
 rw [List.mem_filter]
 exact ⟨fun hx => ⟨h.names x hx, stuck_max hN ha hc hx⟩, fun hx => h.stuck x hx.1 hx.2⟩
set_option maxRecDepth 100000 in
set_option maxHeartbeats 8000000 in
theorem Stuck_calls {tN tS tC t : Nat} (W : Web) (s : State) (w : World) {vs us : List Value} (hW : reps w (W.c tN tS tC) vs) (h : reps w (State.c t s) us) (hz : W.Sm) (hgl : 3 < w.heap.size) (hgt : w.cell? ⟨3, 15, none⟩ = some (.int .u8 4)) :
  Calls Tryz.prog 53 #[.agg vs.toArray, .agg us.toArray] w (MadeV w (strsT 9 (stuckC W s))) := by
 obtain ⟨v0, rfl, h0⟩ := Web.ropen hW
 obtain ⟨A, c, rfl, _, _⟩ := rep_len h0
 obtain ⟨u0, u1, rfl, g0, g1⟩ := State.ropen h
 obtain ⟨D, k, rfl, _, _⟩ := rep_len g0
 obtain ⟨B, d, rfl, _, _⟩ := rep_len g1
 replace hW := Asd.mk hW
 replace h := Asd.mk h
 clear h0 g0 g1
 have hmm := @run_makeMap Tryz.prog
 have HB := Asd.mk (below_al (below_al (Below.refl w.heap.size w) (.cells #[.slice A W.Nodes.length c] 34)) (.cells #[.slice D s.Roots.length k, .slice B s.Runs.length d] 38))
 go_enter Tryz.func53, Tryz.ntmps53
 go_wp2_with fail
 refine (load_calls W s _ (hW.out.below HB.out) (h.out.below HB.out) hz (by simp; omega) (cell_below HB.out hgt)).mono ?_
 rintro e w1 ⟨hb, ⟨hv, eg, F, lo, rfl, hlo, hE⟩ | ⟨hv, rfl⟩⟩
 rotate_left
 ·have hq := Asd.mk (stuckC_no hv)
  have hb1 := Asd.mk (below_st HB.out hb)
  clear hb hv
  go_wp2
  go_ret
  rw [hq.out]
  exact ⟨_, rfl, Lie.made (Lie.nil _ _ _ _), hb1.out⟩
 have hq := Asd.mk (stuckC_yes hv)
 obtain ⟨hw, _, hR⟩ := validS_reach hv
 have hb1 := Asd.mk (below_st HB.out hb)
 have hI := Asd.mk (hR.inv hw)
 have hRl : s.Runs.length ≤ 60 := by have := hI.out.length hw; have := (checkWeb_ok hw).1; omega
 replace hE := Asd.mk hE
 obtain ⟨N, hNe⟩ : ∃ N, s.Runs.map Run.Name = N := ⟨_, rfl⟩
 obtain ⟨wt, hwt⟩ : ∃ wt, waitsL W s.Runs = wt := ⟨_, rfl⟩
 have hNl := Asd.mk (show N.length = s.Runs.length by rw [← hNe, List.length_map])
 have hN := Asd.mk (show ∀ u, ∀ y ∈ wt u, y ∈ N by rw [← hNe, ← hwt]; exact fun u y hy => waits_names u y hy)
 have hA := Asd.mk (show ∀ u, Asc (wt u) by rw [← hwt]; exact waits_asc W s.Runs)
 have hwl := Asd.mk (show ∀ u, (wt u).length ≤ 60 by intro u; rw [← hwt]; exact Nat.le_trans (insS_len _) (Nat.le_trans (waits_len hw hI.out u).1 (by decide)))
 have hNa := Asd.mk (show Asc N from hNe ▸ hI.out.asc)
 have hst := Asd.mk (show stuckL W s.Runs = N.filter (stuckU wt N) by unfold stuckL; rw [hNe, hwt])
 have hwt := Asd.mk (fun u => congrFun hwt u)
 clear hb hlo hv hR
 go_upto_region 5 with (fail)
 have hM0 := Asd.mk (MapAt.new w1)
 obtain ⟨X, eX⟩ : ∃ X : World, X = w1.alloc (.map #[] 0) := ⟨_, rfl⟩
 rw [← eX] at hM0 ⊢
 have hbX := Asd.mk (show Below w1.heap.size w1 X from eX ▸ by repeat first|with_reducible (first|exact Below.refl _ _|exact Below.refl _ _|refine below_al ?_ _|refine below_dr ?_ _|refine below_d1 ?_)|(with_reducible refine Below.setCell ?_ ?_ _;rotate_left;next => first|(simp;done)|(simp;omega)|omega))
 have zX : w1.heap.size < X.heap.size := by rw [eX]; simp
 clear eX
 go_wp2_with fail
 refine (names_calls W s.Roots s.Runs eg F _ (hE.out.later (by repeat first|with_reducible (first|exact Below.refl _ _|exact hbX.out|refine below_al ?_ _|refine below_dr ?_ _|refine below_d1 ?_)|(with_reducible refine Below.setCell ?_ ?_ _;rotate_left;next => first|(simp;done)|(simp;omega)|omega))) (by omega)).mono ?_
 rw [hNe]
 clear hNe
 rintro e' w2 ⟨v2, rfl, ⟨Fn, on, nn, ln⟩, hb⟩
 obtain ⟨A2, d2, rfl, _, _⟩ := own_slice on
 have hb2 := Asd.mk (show Below X.heap.size X w2 from by repeat first|with_reducible (first|exact Below.refl _ _|exact hb|refine below_al ?_ _|refine below_dr ?_ _|refine below_d1 ?_)|(with_reducible refine Below.setCell ?_ ?_ _;rotate_left;next => first|(simp;done)|(simp;omega)|omega))
 have hbw2 := Asd.mk (below_st hbX.out hb2.out)
 have hM2 := Asd.mk (hM0.out.move (hb2.out.block w1.heap.size hM0.out.lt))
 have hnr := Asd.mk (fun (Y : World) (g : MFr [w1.heap.size] w2 Y) => (g.own on (fun b hb h => by have := ln b hb; simp at h this; omega)).rep)
 have hNl60 : N.length ≤ 60 := by have := hNl.out; omega
 clear hb on ln nn
 go_wp2
 go_loopw [25] (fun i wr => ∃ j : Nat, j ≤ N.length ∧ i = .int .i64 j ∧ MapAt wr w1.heap.size (setC (N.take j)) ∧ MFr [w1.heap.size] w2 wr) (fun i _ => N.length - (intOf i).toNat)
 case atStart => exact ⟨0, by omega, rfl, hM2.out, MFr.refl _ _⟩
 case round =>
  obtain ⟨j, hj, rfl, hMj, hmj⟩ := hrel
  by_cases hlt : j < N.length
  ·obtain ⟨al, c', he, hcell⟩ := str_elem (hnr.out wr hmj) hlt
   cases he
   have hput := Asd.mk (show putC (setC (N.take j)) N[j] (.bool true) = setC (N.take (j + 1)) by
    rw [putC_new, List.take_succ_eq_append_getElem hlt]
    intro hmem
    obtain ⟨i2, hi2, he2⟩ := List.getElem_of_mem hmem
    rw [List.getElem_take] at he2
    have hlt2 : i2 < j := by simp at hi2; omega
    exact absurd ((List.getElem_inj hNa.out.nodup).1 he2) (by omega))
   replace hMj := Asd.mk hMj
   replace hmj := Asd.mk hmj
   go_wp2_with (at_mapUpdate; refine wpMapSet rfl rfl Tryz.underlying132 Tryz.underlying9 rfl hMj.out rfl rfl ?_)
   intro w4 hM4 hO
   have hm4 := Asd.mk (hmj.out.trans hO.mfr)
   rw [hput.out] at hM4
   replace hM4 := Asd.mk hM4
   clear hO
   go_wp2
   go_roundw
   case rel => exact ⟨j + 1, by omega, by go_num, hM4.out, hm4.out⟩
   case measure => simp [intOf]; omega
  ·obtain rfl : j = N.length := by omega
   rw [List.take_length] at hMj
   have hbr := Asd.mk (MFr.upon hmj hbw2.out (Nat.le_refl _) (fun b hb => by simp at hb; omega))
   replace hMj := Asd.mk hMj
   have hL0 := Asd.mk (show LeftI wt N N from ⟨hNa.out.nodup, fun q hq => hq, fun q hq _ => hq⟩)
   obtain ⟨Y, eY⟩ : ∃ Y, Y = wr := ⟨_, rfl⟩
   rw [← eY] at hMj hbr ⊢
   clear hmj hnr eY
   go_wp2
   go_loopg [9] (N.length + 2) (fun kx s9 wx => ∃ (mv : Bool) (keys : List ByteArray), s9 = .bool mv ∧ MapAt wx w1.heap.size (setC keys) ∧ LeftI wt N keys ∧ (mv = false → ∀ q ∈ keys, ∃ x ∈ wt q, x ∈ keys) ∧ keys.length + (if mv then 1 else 0) + 1 ≤ kx ∧ Below w1.heap.size w1 wx)
   case atStart => exact ⟨true, N, rfl, hMj.out, hL0.out, (fun h => by cases h), by simp, hbr.out⟩
   case round =>
    obtain ⟨mv, keys, rfl, hM, hLI, hcl, hkx, hbx⟩ := hrel
    have hkl := Asd.mk (nodup_sub_len hLI.nodup hLI.names)
    have hbxw := Asd.mk (below_st hb1.out hbx)
    have zr := hM.lt
    replace hM := Asd.mk hM
    replace hLI := Asd.mk hLI
    replace hbx := Asd.mk hbx
    obtain ⟨V, eV⟩ : ∃ V, V = wr := ⟨_, rfl⟩
    rw [← eV] at hM hbx hbxw zr ⊢
    clear eV
    cases mv with
    | false =>
     have hmem := Asd.mk (hLI.out.mem hN.out hA.out (hcl rfl))
     have hperm := Asd.mk (show keys.Perm (stuckL W s.Runs) from (List.perm_ext_iff_of_nodup hLI.out.nodup (by rw [hst.out]; exact (filter_asc hNa.out _).nodup)).2 (fun x => by rw [hmem.out, hst.out]))
     have hsa := Asd.mk (show Asc (stuckL W s.Runs) by rw [hst.out]; exact filter_asc hNa.out _)
     obtain ⟨C0, hC0⟩ : ∃ C0, setC keys = C0 := ⟨_, rfl⟩
     have hk := Asd.mk (show (C0.map (·.1)).Perm (stuckL W s.Runs) by rw [← hC0, setC_keys]; exact hperm.out)
     have hlen := Asd.mk (show (C0.map (·.1)).length ≤ 1000000 by rw [← hC0, setC_keys]; have := hkl.out; omega)
     rw [hC0] at hM
     have hnd := Asd.mk hM.out.nodup
     clear hcl hC0 hmem
     go_wp2_with (at_range; refine wpMapRange rfl rfl Tryz.underlying132 rfl hM.out ?_)
     intro w4 hI4 hb hz4
     replace hI4 := Asd.mk hI4
     replace hb := Asd.mk hb
     have hz1 : V.heap.size + 1 ≤ w4.heap.size := by omega
     clear hz4
     have hmr : w1.heap.size ≠ V.heap.size := by omega
     go_wp2
     go_loopw [14] (fun v wy => NamesI C0 w1.heap.size V.heap.size V v wy) (fun _ wy => wy.rangeLeft w1.heap.size V.heap.size)
     case atStart => exact ⟨[], C0, hI4.out, List.Perm.refl _, Lie.nil _ _ _ _, hb.out⟩
     case round =>
      obtain ⟨xs, C, hI2, hp, hL, hb2⟩ := hrel
      have hmes := Asd.mk hI2.left
      have hrl := hI2.lt
      replace hI2 := Asd.mk hI2
      replace hL := Asd.mk hL
      replace hb2 := Asd.mk hb2
      have hxl : xs.length ≤ 1000000 := by have h1 := hp.length_eq; have h2 := hlen.out; simp at h1 h2; omega
      replace hp := Asd.mk hp
      cases C with
      | nil =>
       go_wp2_with (at_next; refine wpMapNext0 rfl rfl rfl hI2.out hmr ?_)
       obtain ⟨Fo, o1, n1, l1⟩ := hL.out
       refine (Strings_calls xs (stuckL W s.Runs) _ Fo _ o1 (by simpa using hp.out.trans hk.out) hsa.out hxl).mono ?_
       rintro e' w3 ⟨rfl, o2, hm3⟩
       have hb9 := Asd.mk (MFr.upon hm3 (hbxw.out.trans (hb2.out.mono hbxw.out.size)) (Nat.le_refl _) (fun b hb => by have := l1 b hb; have := hbxw.out.size; omega))
       have hzz := hbxw.out.size
       replace o2 := Asd.mk o2
       replace l1 := Asd.mk l1
       clear hm3 o1
       go_wp2
       go_ret
       rw [hq.out]
       exact ⟨_, rfl, ⟨Fo, o2.out, n1, fun k hk => by have := l1.out k hk; omega⟩, hb9.out⟩
      | cons p0 C =>
       obtain ⟨g0, g1, rfl, _, _⟩ := hL.out.slice
       go_wp2_with (at_next; refine wpMapNext1 rfl rfl rfl hI2.out hmr (by simp) ?_)
       intro q u w2 hp2 hI3 hO hen
       replace hp2 : (q, u) ∈ p0 :: C := by simpa using hp2
       replace hI3 := Asd.mk hI3
       have hL2 := Asd.mk (hL.out.far hO.far (by omega))
       have hb3 := Asd.mk (Far.trans hb2.out hO.far (by omega) hb2.out.size)
       have hz3 : w2.heap.size = wr.heap.size := hO.size
       have hz4 : V.heap.size + 1 ≤ w2.heap.size := by omega
       replace hz3 := Asd.mk hz3
       clear hO
       go_wp2_with (at_builtin; refine appStr rfl rfl rfl (lo := V.heap.size + 1) (wr := w2) hz4 hL2.out (by repeat first|with_reducible (first|exact Below.refl _ _|exact Below.refl _ _|refine below_al ?_ _|refine below_dr ?_ _|refine below_d1 ?_)|(with_reducible refine Below.setCell ?_ ?_ _;rotate_left;next => first|(simp;done)|(simp;omega)|omega)) rfl (heap_alloc_new _ _) hxl ?_)
       intro v7 w7 hL7 hF7
       have e9 := Asd.mk (NamesI.step hp.out hnd.out hp2)
       have hl9 := Asd.mk (delC_len hp2)
       have hI7 := Asd.mk ((hI3.out).move (w' := w7) ((hF7.block w1.heap.size (by have := hI3.out.map.lt; simp; omega) (.inl (by omega))).trans (heap_alloc_old _ _ hI3.out.map.lt)) ((hF7.block V.heap.size (by simp; omega) (.inl (by omega))).trans (heap_alloc_old _ _ (by omega))))
       have hb7 := Asd.mk (Far.trans (show Below V.heap.size V _ from by repeat first|with_reducible (first|exact Below.refl _ _|exact hb3.out|refine below_al ?_ _|refine below_dr ?_ _|refine below_d1 ?_)|(with_reducible refine Below.setCell ?_ ?_ _;rotate_left;next => first|(simp;done)|(simp;omega)|omega)) hF7 (by omega) (by simp; omega))
       clear hen hp2
       replace hL7 := Asd.mk hL7
       clear hF7
       go_wp2
       go_roundw
       case rel => exact ⟨xs ++ [q], delC (p0 :: C) q, hI7.out, e9.out, hL7.out, hb7.out⟩
       case measure => rw [hI7.out.left, hmes.out]; exact hl9.out
    | true =>
     clear hcl
     go_wp2_with (at_range; refine wpMapRange rfl rfl Tryz.underlying132 rfl hM.out ?_)
     intro w4 hI4 hb hz4
     replace hI4 := Asd.mk hI4
     have hbV4 := Asd.mk (below_st hbx.out hb)
     have hz1 : V.heap.size + 1 ≤ w4.heap.size := by omega
     have hmr : w1.heap.size ≠ V.heap.size := by omega
     have zV : w1.heap.size < V.heap.size := zr
     clear hz4 hb
     go_wp2
     go_loopw [9] (fun s9 wy => ∃ (mv : Bool) (keys2 ll : List ByteArray), s9 = .bool mv ∧ ItAt wy w1.heap.size V.heap.size (setC keys2) (setC ll) ∧ LeftI wt N keys2 ∧ (∀ q ∈ ll, q ∈ keys2) ∧ (mv = false → keys2 = keys ∧ ∀ q ∈ keys, q ∉ ll → ∃ x ∈ wt q, x ∈ keys) ∧ (mv = true → keys2.length < keys.length) ∧ Below w1.heap.size w1 wy) (fun _ wy => wy.rangeLeft w1.heap.size V.heap.size)
     case atStart => exact ⟨false, keys, keys, rfl, hI4.out, hLI.out, fun q hq => hq, (fun _ => ⟨rfl, fun q hq hn => absurd hq hn⟩), (fun h => by cases h), hbV4.out⟩
     case round =>
      obtain ⟨mv, keys2, ll, rfl, hI2, hLI2, hll, hmv0, hmv1, hby⟩ := hrel
      have hmes := Asd.mk hI2.left
      have hrl := hI2.lt
      replace hI2 := Asd.mk hI2
      replace hLI2 := Asd.mk hLI2
      replace hll := Asd.mk hll
      replace hmv0 := Asd.mk hmv0
      replace hmv1 := Asd.mk hmv1
      replace hby := Asd.mk hby
      cases ll with
      | nil =>
       have hM9 := Asd.mk hI2.out.map
       go_wp2_with (at_next; refine wpMapNext0 rfl rfl rfl (show ItAt wr w1.heap.size V.heap.size (setC keys2) [] from hI2.out) hmr ?_)
       go_wp2
       go_roundg (keys2.length + (if mv then 1 else 0) + 1)
       case measure =>
        cases mv with
        | false => have h1 := (hmv0.out rfl).1; subst h1; simp at hkx ⊢; omega
        | true => have h1 := hmv1.out rfl; simp at hkx ⊢; omega
       case rel => exact ⟨mv, keys2, rfl, hM9.out, hLI2.out, (fun hm => by obtain ⟨h1, h2⟩ := hmv0.out hm; subst h1; exact fun q hq => h2 q hq (by simp)), Nat.le_refl _, hby.out⟩
      | cons p0 ll =>
       go_wp2_with (at_next; refine wpMapNext1 rfl rfl rfl hI2.out hmr (by simp [setC]) ?_)
       intro q u w5 hp2 hI3 hO hen
       replace hp2 : (q, u) ∈ setC (p0 :: ll) := by simpa using hp2
       have hqm : q ∈ p0 :: ll := by
        obtain ⟨x, hx, he⟩ := List.mem_map.1 hp2
        have e2 : x = q := congrArg Prod.fst he
        exact e2 ▸ hx
       have hqk := Asd.mk (hll.out q hqm)
       obtain ⟨ll2, hll2⟩ : ∃ ll2, dropN (p0 :: ll) q = ll2 := ⟨_, rfl⟩
       have hll2m := Asd.mk (show ∀ x, x ∈ ll2 ↔ x ∈ p0 :: ll ∧ x ≠ q from fun x => by rw [← hll2]; exact mem_dropN)
       have hll2l := Asd.mk (show ll2.length < (p0 :: ll).length by rw [← hll2]; exact dropN_len hqm)
       rw [delC_setC, hll2] at hI3
       have hb5 := Asd.mk (hO.upon hby.out (Nat.le_refl _) (by omega))
       have hz5 : w5.heap.size = wr.heap.size := hO.size
       have hrl5 := hI3.lt
       have hml5 := hI3.map.lt
       replace hI3 := Asd.mk hI3
       replace hz5 := Asd.mk hz5
       replace hqm := Asd.mk hqm
       clear hO hp2 hll2
       go_wp2_with fail
       refine (waits_calls W s.Roots s.Runs eg F q _ (hE.out.later (by repeat first|with_reducible (first|exact Below.refl _ _|exact hb5.out|refine below_al ?_ _|refine below_dr ?_ _|refine below_d1 ?_)|(with_reducible refine Below.setCell ?_ ?_ _;rotate_left;next => first|(simp;done)|(simp;omega)|omega))) hw hI.out).mono ?_
       rw [hwt.out]
       rintro e' w6 ⟨v6, rfl, ⟨F6, o6, _, _⟩, hb⟩
       have hr6 := Asd.mk o6.rep
       obtain ⟨A6, d6, rfl, _, _⟩ := own_slice o6
       have hb56 : Below w5.heap.size w5 w6 := by repeat first|with_reducible (first|exact Below.refl _ _|exact hb|refine below_al ?_ _|refine below_dr ?_ _|refine below_d1 ?_)|(with_reducible refine Below.setCell ?_ ?_ _;rotate_left;next => first|(simp;done)|(simp;omega)|omega)
       have hb6 := Asd.mk (below_st hb5.out hb56)
       have hI6 := Asd.mk (hI3.out.move (hb56.block _ hml5) (hb56.block _ hrl5))
       have hlk := fun x => look_set hI6.out.map x
       have hwq := hwl.out q
       clear hb o6 hen hb56 hI3
       go_wp2
       go_loopw [11, 43] (fun s11 s43 wz => wz = w6 ∧ ∃ j : Nat, j ≤ (wt q).length ∧ s43 = .int .i64 j ∧ s11 = .bool (anyTo (wt q) keys2 j)) (fun _ s43 _ => (wt q).length - (intOf s43).toNat)
       case atStart => exact ⟨rfl, 0, by omega, rfl, rfl⟩
       case round =>
        obtain ⟨hwz, j, hj, rfl, rfl⟩ := hrel
        subst hwz
        by_cases hlt : j < (wt q).length
        ·obtain ⟨al, c', he, hcell⟩ := str_elem hr6.out hlt
         cases he
         obtain ⟨x, hx⟩ : ∃ x, (wt q)[j] = x := ⟨_, rfl⟩
         rw [hx] at hcell
         have hsucc := anyTo_succ (keys := keys2) hlt
         rw [hx] at hsucc
         have hlx := hlk x
         obtain ⟨bx, hbx2⟩ : ∃ bx, decide (x ∈ keys2) = bx := ⟨_, rfl⟩
         rw [hbx2] at hlx hsucc
         obtain ⟨bj, hbj⟩ : ∃ bj, anyTo (wt q) keys2 j = bj := ⟨_, rfl⟩
         rw [hbj] at hsucc ⊢
         replace hsucc := Asd.mk hsucc
         clear hlk hx hbx2 hbj
         cases bj with
         | true =>
          go_wp2
          go_roundw
          case rel => exact ⟨by first | rfl | trivial, j + 1, by omega, by go_num, by rw [hsucc.out]; rfl⟩
          case measure => simp [intOf]; omega
         | false =>
          go_wp2
          go_roundw
          case rel => exact ⟨by first | rfl | trivial, j + 1, by omega, by go_num, by rw [hsucc.out]; rfl⟩
          case measure => simp [intOf]; omega
        ·obtain rfl : j = (wt q).length := by omega
         have hend := Asd.mk (anyTo_end (l := wt q) (keys := keys2))
         obtain ⟨bj, hbj⟩ : ∃ bj, anyTo (wt q) keys2 (wt q).length = bj := ⟨_, rfl⟩
         rw [hbj] at hend ⊢
         clear hlk hbj
         have hk2l := Asd.mk (show keys2.length ≤ keys.length by
          cases mv with
          | false => have h1 := (hmv0.out rfl).1; subst h1; exact Nat.le_refl _
          | true => exact Nat.le_of_lt (hmv1.out rfl))
         cases bj with
         | true =>
          have hex := Asd.mk (hend.out.1 rfl)
          go_wp2
          go_roundw
          case rel =>
           refine ⟨mv, keys2, ll2, rfl, hI6.out, hLI2.out, fun x hx => hll.out x ((hll2m.out x).1 hx).1, fun hm => ?_, hmv1.out, hb6.out⟩
           obtain ⟨h1, h2⟩ := hmv0.out hm
           subst h1
           refine ⟨rfl, fun x hx hn => ?_⟩
           by_cases hxq : x = q
           ·subst hxq; exact hex.out
           ·exact h2 x hx (fun hm2 => hn ((hll2m.out x).2 ⟨hm2, hxq⟩))
          case measure =>
           rw [hI6.out.left, hmes.out]
           show (setC ll2).length < (setC (p0 :: ll)).length
           unfold setC; rw [List.length_map, List.length_map]; exact hll2l.out
         | false =>
          have hnex := Asd.mk (show ¬∃ x ∈ wt q, x ∈ keys2 from fun h => by have := hend.out.2 h; cases this)
          go_wp2_with (at_delete; refine wpMapDelIt rfl rfl Tryz.underlying132 Tryz.underlying9 rfl hI6.out hmr rfl (fun p hp => by obtain ⟨x, hx, rfl⟩ := List.mem_map.1 hp; exact ((hll2m.out x).1 hx).2) ?_)
          intro w8 hI8 hO8
          rw [delC_setC] at hI8
          have hb8 := Asd.mk (hO8.upon hb6.out (Nat.le_refl _) (Nat.le_refl _))
          replace hI8 := Asd.mk hI8
          clear hO8
          go_wp2
          go_roundw
          case rel =>
           exact ⟨true, dropN keys2 q, ll2, rfl, hI8.out, hLI2.out.drop hN.out hA.out hnex.out, fun x hx => mem_dropN.2 ⟨hll.out x ((hll2m.out x).1 hx).1, ((hll2m.out x).1 hx).2⟩, (fun h => by cases h), (fun _ => Nat.lt_of_lt_of_le (dropN_len hqk.out) hk2l.out), hb8.out⟩
          case measure =>
           rw [hI8.out.left, hmes.out]
           show (setC ll2).length < (setC (p0 :: ll)).length
           unfold setC; rw [List.length_map, List.length_map]; exact hll2l.out
end Go.Proofs.YtkpkfihaihoaeaaGreatDoor.M
end
section
set_option linter.unusedVariables false
set_option linter.unusedSimpArgs false
namespace Go.Proofs.YtkpkfihaihoaeaaGreatDoor.M
open Go.RowKit
theorem stuckC_cnt (t : Nat) (W : Web) (s : State) : cnt (strsT t (stuckC W s)) ≤ 60 := by
 rw [strs_cnt_len]
 cases h : validS W s with
 | true =>
  obtain ⟨hw, _, hR⟩ := validS_reach h
  rw [stuckC_yes h]
  have h1 := (hR.inv hw).length hw
  have h2 := (checkWeb_ok hw).1
  unfold stuckL
  have h3 := List.length_filter_le (stuckU (waitsL W s.Runs) (s.Runs.map Run.Name)) (s.Runs.map Run.Name)
  rw [List.length_map] at h3
  omega
 | false => rw [stuckC_no h]; simp
end Go.Proofs.YtkpkfihaihoaeaaGreatDoor.M
end
section
set_option linter.unusedVariables false
set_option linter.unusedSimpArgs false
namespace Go.Proofs.YtkpkfihaihoaeaaGreatDoor.M
open Go.RowKit

set_option maxRecDepth 100000 in
set_option maxHeartbeats 4000000 in
theorem FnExactStuck_calls {tNode0 tStep0 tCase0 tRun1 : Nat} (x0 : Web) (x1 : State) (w : World) {vs0 : List Value} (h0 : reps w (x0.c tNode0 tStep0 tCase0) vs0) (hz0 : x0.Zm) {vs1 : List Value} (h1 : reps w (x1.c tRun1) vs1) (hz1 : x1.Zm) (hg : 3 < w.heap.size) (ht : w.cell? ⟨3, 15, none⟩ = some (.int .u8 4)) :
  Calls Tryz.prog 10 #[.agg vs0.toArray, .agg vs1.toArray] w fun e w' => e = .returned (.bool true) ∧ Below w.heap.size w w' := by
 have H0 := Asd.mk h0
 obtain ⟨u0_0, rfl, g0_0⟩ := Web.ropen h0
 obtain ⟨A0_0, C0_0, rfl, _, _⟩ := rep_len g0_0
 clear g0_0
 clear h0
 replace hz0 := Asd.mk hz0
 have H1 := Asd.mk h1
 obtain ⟨u1_0, u1_1, rfl, g1_0, g1_1⟩ := State.ropen h1
 obtain ⟨A1_0, C1_0, rfl, _, _⟩ := rep_len g1_0
 clear g1_0
 obtain ⟨A1_1, C1_1, rfl, _, _⟩ := rep_len g1_1
 clear g1_1
 clear h1
 replace hz1 := Asd.mk hz1
 by_cases q0 : ((x0.bk : Nat) : Int) ≤ 1048576
 rotate_left
 ·have e0 : szI (x0.bk) (1048576) = -1 := szI_no q0
  go_enter Tryz.func10, Tryz.ntmps10
  go_wp2_with fail
  refine (szWeb_calls x0 _ _ (H0.out.below (below_al (below_al (Below.refl _ _) _) _)) (by omega) (by omega) hz0.out).mono ?_
  rintro e w1 ⟨rfl, hb⟩
  have hF := Far.of_below hb
  have zs1 : w.heap.size + 1 + 1 ≤ w1.heap.size := by have := hF.size; (try simp at this); omega
  have c0_0 : w1.cell? ⟨w.heap.size, 0, none⟩ = some (.slice A0_0 x0.Nodes.length C0_0) := by rw [hF.cell (by first | (simp; done) | (simp; omega) | omega) (by omega)]; first | exact c0_0 | go_simp
  have c1_0 : w1.cell? ⟨w.heap.size + 1, 0, none⟩ = some (.slice A1_0 x1.Roots.length C1_0) := by rw [hF.cell (by first | (simp; done) | (simp; omega) | omega) (by omega)]; first | exact c1_0 | go_simp
  have c1_1 : w1.cell? ⟨w.heap.size + 1, 1, none⟩ = some (.slice A1_1 x1.Runs.length C1_1) := by rw [hF.cell (by first | (simp; done) | (simp; omega) | omega) (by omega)]; first | exact c1_1 | go_simp
  have z0 : w.heap.size < w1.heap.size := by omega
  have z1 : w.heap.size + 1 < w1.heap.size := by omega
  have HB_1 := Asd.mk (Far.trans3 (below_al (below_al (Below.refl _ _) _) _) hF (by omega))
  clear hF hb
  go_wp2
  go_ret
  exact ⟨rfl, HB_1.out⟩
 have e0 : szI (x0.bk) (1048576) = 1048576 - (x0.bk : Nat) := szI_yes q0
 by_cases q1 : ((x1.bk : Nat) : Int) ≤ 1048576 - (x0.bk : Nat)
 rotate_left
 ·have e1 : szI (x1.bk) (1048576 - (x0.bk : Nat)) = -1 := szI_no q1
  go_enter Tryz.func10, Tryz.ntmps10
  go_wp2_with fail
  refine (szWeb_calls x0 _ _ (H0.out.below (below_al (below_al (Below.refl _ _) _) _)) (by omega) (by omega) hz0.out).mono ?_
  rintro e w1 ⟨rfl, hb⟩
  have hF := Far.of_below hb
  have zs1 : w.heap.size + 1 + 1 ≤ w1.heap.size := by have := hF.size; (try simp at this); omega
  have c0_0 : w1.cell? ⟨w.heap.size, 0, none⟩ = some (.slice A0_0 x0.Nodes.length C0_0) := by rw [hF.cell (by first | (simp; done) | (simp; omega) | omega) (by omega)]; first | exact c0_0 | go_simp
  have c1_0 : w1.cell? ⟨w.heap.size + 1, 0, none⟩ = some (.slice A1_0 x1.Roots.length C1_0) := by rw [hF.cell (by first | (simp; done) | (simp; omega) | omega) (by omega)]; first | exact c1_0 | go_simp
  have c1_1 : w1.cell? ⟨w.heap.size + 1, 1, none⟩ = some (.slice A1_1 x1.Runs.length C1_1) := by rw [hF.cell (by first | (simp; done) | (simp; omega) | omega) (by omega)]; first | exact c1_1 | go_simp
  have z0 : w.heap.size < w1.heap.size := by omega
  have z1 : w.heap.size + 1 < w1.heap.size := by omega
  have HB_1 := Asd.mk (Far.trans3 (below_al (below_al (Below.refl _ _) _) _) hF (by omega))
  clear hF hb
  go_wp2_with fail
  refine (szState_calls x1 _ _ (H1.out.below (HB_1.out)) (by omega) (by omega) hz1.out).mono ?_
  rintro e w2 ⟨rfl, hb⟩
  have hF := Far.of_below hb
  have zs2 : w1.heap.size ≤ w2.heap.size := by have := hF.size; (try simp at this); omega
  replace c0_0 : w2.cell? ⟨w.heap.size, 0, none⟩ = some (.slice A0_0 x0.Nodes.length C0_0) := by rw [hF.cell (by first | (simp; done) | (simp; omega) | omega) (by omega)]; first | exact c0_0 | go_simp
  replace c1_0 : w2.cell? ⟨w.heap.size + 1, 0, none⟩ = some (.slice A1_0 x1.Roots.length C1_0) := by rw [hF.cell (by first | (simp; done) | (simp; omega) | omega) (by omega)]; first | exact c1_0 | go_simp
  replace c1_1 : w2.cell? ⟨w.heap.size + 1, 1, none⟩ = some (.slice A1_1 x1.Runs.length C1_1) := by rw [hF.cell (by first | (simp; done) | (simp; omega) | omega) (by omega)]; first | exact c1_1 | go_simp
  replace z0 : w.heap.size < w2.heap.size := by omega
  replace z1 : w.heap.size + 1 < w2.heap.size := by omega
  have HB_2 := Asd.mk (Far.trans3 (HB_1.out) hF (by omega))
  clear hF hb
  go_wp2
  go_ret
  exact ⟨rfl, HB_2.out⟩
 have e1 : szI (x1.bk) (1048576 - (x0.bk : Nat)) = 1048576 - (x0.bk : Nat) - (x1.bk : Nat) := szI_yes q1
 obtain ⟨g, gx⟩ : ∃ g, stuckC x0 x1 = g := ⟨_, rfl⟩
 obtain ⟨KA0, ka0⟩ : ∃ K, 1 + cntl (x0.c 113 121 213) = K := ⟨_, rfl⟩
 have la0 : 1 ≤ KA0 := by omega
 obtain ⟨KA1, ka1⟩ : ∃ K, KA0 + cntl (x1.c 84) = K := ⟨_, rfl⟩
 have la1 : KA0 ≤ KA1 := by omega
 obtain ⟨KG0, kg0⟩ : ∃ K, 1 + cnt (strsT 9 g) = K := ⟨_, rfl⟩
 have lg0 : 1 ≤ KG0 := by omega
 have hc_ : cntl (x0.c 113 121 213) ≤ 6 * x0.bk := Web.cnt_le x0
 have hc2_ : cntl (x1.c 84) ≤ 6 * x1.bk := State.cnt_le _ x1
 have hg_ : cnt (strsT 9 g) ≤ 3000 := by rw [← gx]; exact Nat.le_trans (stuckC_cnt _ x0 x1) (by decide)
 have hKA : KA1 ≤ 1000000000 := by omega
 have hKG : KG0 ≤ 1000000000 := by omega
 replace ka0 := Asd.mk ka0
 replace ka1 := Asd.mk ka1
 replace kg0 := Asd.mk kg0
 clear hc_
 go_enter Tryz.func10, Tryz.ntmps10
 go_wp2_with fail
 refine (szWeb_calls x0 _ _ (H0.out.below (below_al (below_al (Below.refl _ _) _) _)) (by omega) (by omega) hz0.out).mono ?_
 rintro e w1 ⟨rfl, hb⟩
 have hF := Far.of_below hb
 have zs1 : w.heap.size + 1 + 1 ≤ w1.heap.size := by have := hF.size; (try simp at this); omega
 have c0_0 : w1.cell? ⟨w.heap.size, 0, none⟩ = some (.slice A0_0 x0.Nodes.length C0_0) := by rw [hF.cell (by first | (simp; done) | (simp; omega) | omega) (by omega)]; first | exact c0_0 | go_simp
 have c1_0 : w1.cell? ⟨w.heap.size + 1, 0, none⟩ = some (.slice A1_0 x1.Roots.length C1_0) := by rw [hF.cell (by first | (simp; done) | (simp; omega) | omega) (by omega)]; first | exact c1_0 | go_simp
 have c1_1 : w1.cell? ⟨w.heap.size + 1, 1, none⟩ = some (.slice A1_1 x1.Runs.length C1_1) := by rw [hF.cell (by first | (simp; done) | (simp; omega) | omega) (by omega)]; first | exact c1_1 | go_simp
 have z0 : w.heap.size < w1.heap.size := by omega
 have z1 : w.heap.size + 1 < w1.heap.size := by omega
 have HB_1 := Asd.mk (Far.trans3 (below_al (below_al (Below.refl _ _) _) _) hF (by omega))
 clear hF hb
 go_wp2_with fail
 refine (szState_calls x1 _ _ (H1.out.below (HB_1.out)) (by omega) (by omega) hz1.out).mono ?_
 rintro e w2 ⟨rfl, hb⟩
 have hF := Far.of_below hb
 have zs2 : w1.heap.size ≤ w2.heap.size := by have := hF.size; (try simp at this); omega
 replace c0_0 : w2.cell? ⟨w.heap.size, 0, none⟩ = some (.slice A0_0 x0.Nodes.length C0_0) := by rw [hF.cell (by first | (simp; done) | (simp; omega) | omega) (by omega)]; first | exact c0_0 | go_simp
 replace c1_0 : w2.cell? ⟨w.heap.size + 1, 0, none⟩ = some (.slice A1_0 x1.Roots.length C1_0) := by rw [hF.cell (by first | (simp; done) | (simp; omega) | omega) (by omega)]; first | exact c1_0 | go_simp
 replace c1_1 : w2.cell? ⟨w.heap.size + 1, 1, none⟩ = some (.slice A1_1 x1.Runs.length C1_1) := by rw [hF.cell (by first | (simp; done) | (simp; omega) | omega) (by omega)]; first | exact c1_1 | go_simp
 replace z0 : w.heap.size < w2.heap.size := by omega
 replace z1 : w.heap.size + 1 < w2.heap.size := by omega
 have HB_2 := Asd.mk (Far.trans3 (HB_1.out) hF (by omega))
 clear hF hb
 have hkeep := Asd.mk (show ∀ W, Below w2.heap.size w2 W → (Below w2.heap.size w2 W ∧ W.cell? ⟨w.heap.size, 0, none⟩ = some (.slice A0_0 x0.Nodes.length C0_0) ∧ W.cell? ⟨w.heap.size + 1, 0, none⟩ = some (.slice A1_0 x1.Roots.length C1_0) ∧ W.cell? ⟨w.heap.size + 1, 1, none⟩ = some (.slice A1_1 x1.Runs.length C1_1)) from fun W hb => ⟨hb, cell_below hb c0_0, cell_below hb c1_0, cell_below hb c1_1⟩)
 have s_0 : Below w2.heap.size w2 w2.drew := (Below.refl _ _).drew
 go_wp2
 go_region_held3 (fun W => Below w2.heap.size w2 W ∧ W.cell? ⟨w.heap.size, 0, none⟩ = some (.slice A0_0 x0.Nodes.length C0_0) ∧ W.cell? ⟨w.heap.size + 1, 0, none⟩ = some (.slice A1_0 x1.Roots.length C1_0) ∧ W.cell? ⟨w.heap.size + 1, 1, none⟩ = some (.slice A1_1 x1.Runs.length C1_1)) ((refine hkeep.out _ ?_; (repeat first|with_reducible (first|exact Below.refl _ _|exact s_0|refine below_al ?_ _|refine below_dr ?_ _|refine below_d1 ?_)|(with_reducible refine Below.setCell ?_ ?_ _;rotate_left;next => first|(simp;done)|(simp;omega)|omega))))
  (first | (go_at_call 18; refine (toWeb_calls x0 _ (H0.out.below (below_st (HB_2.out) (show Below w2.heap.size w2 _ from by repeat first|with_reducible (first|exact Below.refl _ _|exact s_0|refine below_al ?_ _|refine below_dr ?_ _|refine below_d1 ?_)|(with_reducible refine Below.setCell ?_ ?_ _;rotate_left;next => first|(simp;done)|(simp;omega)|omega)))) (by omega)).mono ?_; rintro e W0 ⟨us, rfl, ⟨F_, o_, n_, l_⟩, hb⟩; obtain ⟨v_0, G_0, rfl, p_0, rfl⟩ := Web.oopen o_; obtain ⟨D0_0, d0_0, rfl, _, _⟩ := own_slice p_0; have r_s0 := Asd.mk o_.rep; obtain ⟨s_0, s_1, s_2, s_3⟩ := hkeep.out _ (below_st (show Below w2.heap.size w2 _ from by repeat first|with_reducible (first|exact Below.refl _ _|exact s_0|refine below_al ?_ _|refine below_dr ?_ _|refine below_d1 ?_)|(with_reducible refine Below.setCell ?_ ?_ _;rotate_left;next => first|(simp;done)|(simp;omega)|omega)) hb); clear hb o_ l_ n_ p_0) | (go_at_call 19; refine (toState_calls x1 _ (H1.out.below (below_st (HB_2.out) (show Below w2.heap.size w2 _ from by repeat first|with_reducible (first|exact Below.refl _ _|exact s_0|refine below_al ?_ _|refine below_dr ?_ _|refine below_d1 ?_)|(with_reducible refine Below.setCell ?_ ?_ _;rotate_left;next => first|(simp;done)|(simp;omega)|omega)))) (by omega)).mono ?_; rintro e W1 ⟨us, rfl, ⟨F_, o_, n_, l_⟩, hb⟩; obtain ⟨v_0, G_0, v_1, G_1, rfl, p_0, p_1, rfl⟩ := State.oopen o_; obtain ⟨D1_0, d1_0, rfl, _, _⟩ := own_slice p_0; obtain ⟨D1_1, d1_1, rfl, _, _⟩ := own_slice p_1; have r_s1 := Asd.mk o_.rep; replace r_s0 := Asd.mk (r_s0.out.below (below_st (by repeat first|with_reducible (first|exact Below.refl _ _|exact Below.refl _ _|refine below_al ?_ _|refine below_dr ?_ _|refine below_d1 ?_)|(with_reducible refine Below.setCell ?_ ?_ _;rotate_left;next => first|(simp;done)|(simp;omega)|omega)) hb)); obtain ⟨s_0, s_1, s_2, s_3⟩ := hkeep.out _ (below_st (show Below w2.heap.size w2 _ from by repeat first|with_reducible (first|exact Below.refl _ _|exact s_0|refine below_al ?_ _|refine below_dr ?_ _|refine below_d1 ?_)|(with_reducible refine Below.setCell ?_ ?_ _;rotate_left;next => first|(simp;done)|(simp;omega)|omega)) hb); clear hb o_ l_ n_ p_0 p_1) | (go_at_call 52; refine (sStuck_calls x0 x1 _ (r_s0.out.below (by repeat first|with_reducible (first|exact Below.refl _ _|exact Below.refl _ _|refine below_al ?_ _|refine below_dr ?_ _|refine below_d1 ?_)|(with_reducible refine Below.setCell ?_ ?_ _;rotate_left;next => first|(simp;done)|(simp;omega)|omega))) (r_s1.out.below (by repeat first|with_reducible (first|exact Below.refl _ _|exact Below.refl _ _|refine below_al ?_ _|refine below_dr ?_ _|refine below_d1 ?_)|(with_reducible refine Below.setCell ?_ ?_ _;rotate_left;next => first|(simp;done)|(simp;omega)|omega))) (Web.zsm hz0.out)).mono ?_; rw [gx]; rintro e w3 ⟨v_, rfl, hM, hb⟩; have I_w0 : Asd (Iv _ w3.heap.size w3 ([strsT 9 g]) [v_]) := Asd.mk ((Iv.of_lie hM.lie).mono (Nat.le_refl _) (Nat.le_refl _)); obtain ⟨F_, o_, _, _⟩ := hM; obtain ⟨Aw0, Cw0, rfl, _, _⟩ := own_slice o_; clear o_; obtain ⟨s_0, s_1, s_2, s_3⟩ := hkeep.out _ (below_st (show Below w2.heap.size w2 _ from by repeat first|with_reducible (first|exact Below.refl _ _|exact s_0|refine below_al ?_ _|refine below_dr ?_ _|refine below_d1 ?_)|(with_reducible refine Below.setCell ?_ ?_ _;rotate_left;next => first|(simp;done)|(simp;omega)|omega)) hb); clear hb))
 have hF : Far 0 0 w2 w3 := Far.of_below s_0
 clear hkeep s_0 s_1 s_2 s_3 r_s0 r_s1
 have zs3 : w2.heap.size ≤ w3.heap.size := by have := hF.size; (try simp at this); omega
 replace c0_0 : w3.cell? ⟨w.heap.size, 0, none⟩ = some (.slice A0_0 x0.Nodes.length C0_0) := by rw [hF.cell (by first | (simp; done) | (simp; omega) | omega) (by omega)]; first | exact c0_0 | go_simp
 replace c1_0 : w3.cell? ⟨w.heap.size + 1, 0, none⟩ = some (.slice A1_0 x1.Roots.length C1_0) := by rw [hF.cell (by first | (simp; done) | (simp; omega) | omega) (by omega)]; first | exact c1_0 | go_simp
 replace c1_1 : w3.cell? ⟨w.heap.size + 1, 1, none⟩ = some (.slice A1_1 x1.Runs.length C1_1) := by rw [hF.cell (by first | (simp; done) | (simp; omega) | omega) (by omega)]; first | exact c1_1 | go_simp
 replace z0 : w.heap.size < w3.heap.size := by omega
 replace z1 : w.heap.size + 1 < w3.heap.size := by omega
 have HB_3 := Asd.mk (Far.trans3 (HB_2.out) hF (by omega))
 clear hF
 go_wp2_with fail
 refine (toWeb_calls x0 _ (H0.out.below (HB_3.out)) (by omega)).mono ?_
 rintro e w4 ⟨us, rfl, hM, hb⟩
 have hF := Far.of_below hb
 have I_i0 : Asd (Iv (w3.heap.size) w4.heap.size w4 (x0.c 113 121 213) us) := Asd.mk ((Iv.of_mades hM).mono (by simp) (Nat.le_refl _))
 obtain ⟨F_, o_, _, _⟩ := hM
 obtain ⟨v_0, G_0, rfl, p_0, rfl⟩ := Web.oopen o_
 obtain ⟨Ai0_0, Ci0_0, rfl, _, _⟩ := own_slice p_0
 clear o_ p_0
 have zs4 : w3.heap.size ≤ w4.heap.size := by have := hF.size; (try simp at this); omega
 replace c0_0 : w4.cell? ⟨w.heap.size, 0, none⟩ = some (.slice A0_0 x0.Nodes.length C0_0) := by rw [hF.cell (by first | (simp; done) | (simp; omega) | omega) (by omega)]; first | exact c0_0 | go_simp
 replace c1_0 : w4.cell? ⟨w.heap.size + 1, 0, none⟩ = some (.slice A1_0 x1.Roots.length C1_0) := by rw [hF.cell (by first | (simp; done) | (simp; omega) | omega) (by omega)]; first | exact c1_0 | go_simp
 replace c1_1 : w4.cell? ⟨w.heap.size + 1, 1, none⟩ = some (.slice A1_1 x1.Runs.length C1_1) := by rw [hF.cell (by first | (simp; done) | (simp; omega) | omega) (by omega)]; first | exact c1_1 | go_simp
 replace z0 : w.heap.size < w4.heap.size := by omega
 replace z1 : w.heap.size + 1 < w4.heap.size := by omega
 have HB_4 := Asd.mk (Far.trans3 (HB_3.out) hF (by omega))
 replace I_w0 := Asd.mk ((I_w0.out.below (Below.refl _ _)).far hF (by omega))
 clear hF hb
 go_wp2_with fail
 refine (toState_calls x1 _ (H1.out.below (below_al (HB_4.out) _)) (by omega)).mono ?_
 rintro e w5 ⟨us, rfl, hM, hb⟩
 have hF := Far.of_below hb
 have I_i1 : Asd (Iv (w4.heap.size + 1) w5.heap.size w5 (x1.c 84) us) := Asd.mk ((Iv.of_mades hM).mono (by simp) (Nat.le_refl _))
 obtain ⟨F_, o_, _, _⟩ := hM
 obtain ⟨v_0, G_0, v_1, G_1, rfl, p_0, p_1, rfl⟩ := State.oopen o_
 obtain ⟨Ai1_0, Ci1_0, rfl, _, _⟩ := own_slice p_0
 obtain ⟨Ai1_1, Ci1_1, rfl, _, _⟩ := own_slice p_1
 clear o_ p_0 p_1
 have zs5 : w4.heap.size + 1 ≤ w5.heap.size := by have := hF.size; (try simp at this); omega
 replace c0_0 : w5.cell? ⟨w.heap.size, 0, none⟩ = some (.slice A0_0 x0.Nodes.length C0_0) := by rw [hF.cell (by first | (simp; done) | (simp; omega) | omega) (by omega)]; first | exact c0_0 | go_simp
 replace c1_0 : w5.cell? ⟨w.heap.size + 1, 0, none⟩ = some (.slice A1_0 x1.Roots.length C1_0) := by rw [hF.cell (by first | (simp; done) | (simp; omega) | omega) (by omega)]; first | exact c1_0 | go_simp
 replace c1_1 : w5.cell? ⟨w.heap.size + 1, 1, none⟩ = some (.slice A1_1 x1.Runs.length C1_1) := by rw [hF.cell (by first | (simp; done) | (simp; omega) | omega) (by omega)]; first | exact c1_1 | go_simp
 have c2_0 : w5.cell? ⟨w4.heap.size, 0, none⟩ = some (.slice Ai0_0 x0.Nodes.length Ci0_0) := by rw [hF.cell (by first | (simp; done) | (simp; omega) | omega) (by omega)]; first | exact c2_0 | go_simp
 replace z0 : w.heap.size < w5.heap.size := by omega
 replace z1 : w.heap.size + 1 < w5.heap.size := by omega
 have z2 : w4.heap.size < w5.heap.size := by omega
 have HB_5 := Asd.mk (Far.trans3 (below_al (HB_4.out) _) hF (by omega))
 replace I_w0 := Asd.mk ((I_w0.out.below (below_al (Below.refl _ _) _)).far hF (by omega))
 replace I_i0 := Asd.mk ((I_i0.out.below (below_al (Below.refl _ _) _)).far hF (by omega))
 clear hF hb
 go_wp2_with fail
 refine (Stuck_calls x0 x1 _ (I_i0.out.reps.below (below_al (Below.refl _ _) _)) (I_i1.out.reps.below (below_al (Below.refl _ _) _)) (Web.zsm hz0.out) (Nat.lt_of_lt_of_le hg (below_al (HB_5.out) _).size) (cell_below (below_al (HB_5.out) _) ht)).mono ?_
 rw [gx]
 rintro e w6 ⟨v_, rfl, hM, hb⟩
 have hF := Far.of_below hb
 have I_g0 : Asd (Iv (w5.heap.size + 1) w6.heap.size w6 ([strsT 9 g]) [v_]) := Asd.mk ((Iv.of_lie hM.lie).mono (by simp) (Nat.le_refl _))
 obtain ⟨F_, o_, _, _⟩ := hM
 obtain ⟨Ag0, Cg0, rfl, _, _⟩ := own_slice o_
 clear o_
 have zs6 : w5.heap.size + 1 ≤ w6.heap.size := by have := hF.size; (try simp at this); omega
 replace c0_0 : w6.cell? ⟨w.heap.size, 0, none⟩ = some (.slice A0_0 x0.Nodes.length C0_0) := by rw [hF.cell (by first | (simp; done) | (simp; omega) | omega) (by omega)]; first | exact c0_0 | go_simp
 replace c1_0 : w6.cell? ⟨w.heap.size + 1, 0, none⟩ = some (.slice A1_0 x1.Roots.length C1_0) := by rw [hF.cell (by first | (simp; done) | (simp; omega) | omega) (by omega)]; first | exact c1_0 | go_simp
 replace c1_1 : w6.cell? ⟨w.heap.size + 1, 1, none⟩ = some (.slice A1_1 x1.Runs.length C1_1) := by rw [hF.cell (by first | (simp; done) | (simp; omega) | omega) (by omega)]; first | exact c1_1 | go_simp
 replace c2_0 : w6.cell? ⟨w4.heap.size, 0, none⟩ = some (.slice Ai0_0 x0.Nodes.length Ci0_0) := by rw [hF.cell (by first | (simp; done) | (simp; omega) | omega) (by omega)]; first | exact c2_0 | go_simp
 have c3_0 : w6.cell? ⟨w5.heap.size, 0, none⟩ = some (.slice Ai1_0 x1.Roots.length Ci1_0) := by rw [hF.cell (by first | (simp; done) | (simp; omega) | omega) (by omega)]; first | exact c3_0 | go_simp
 have c3_1 : w6.cell? ⟨w5.heap.size, 1, none⟩ = some (.slice Ai1_1 x1.Runs.length Ci1_1) := by rw [hF.cell (by first | (simp; done) | (simp; omega) | omega) (by omega)]; first | exact c3_1 | go_simp
 replace z0 : w.heap.size < w6.heap.size := by omega
 replace z1 : w.heap.size + 1 < w6.heap.size := by omega
 replace z2 : w4.heap.size < w6.heap.size := by omega
 have z3 : w5.heap.size < w6.heap.size := by omega
 have HB_6 := Asd.mk (Far.trans3 (below_al (HB_5.out) _) hF (by omega))
 replace I_w0 := Asd.mk ((I_w0.out.below (below_al (Below.refl _ _) _)).far hF (by omega))
 replace I_i0 := Asd.mk ((I_i0.out.below (below_al (Below.refl _ _) _)).far hF (by omega))
 replace I_i1 := Asd.mk ((I_i1.out.below (below_al (Below.refl _ _) _)).far hF (by omega))
 clear hF hb
 have y_0 : eqB (g) (g) = true := eqB_yes rfl
 go_wp2_with fail
 refine (eqStringS_calls (g) (g) _ _ _ (reps_one (I_g0.out.reps.below (Below.refl _ _))) (reps_one (I_w0.out.reps.below (Below.refl _ _)))).mono ?_
 rintro e w7 ⟨rfl, hb⟩
 have hF := Far.of_below hb
 have zs7 : w6.heap.size ≤ w7.heap.size := by have := hF.size; (try simp at this); omega
 replace c0_0 : w7.cell? ⟨w.heap.size, 0, none⟩ = some (.slice A0_0 x0.Nodes.length C0_0) := by rw [hF.cell (by first | (simp; done) | (simp; omega) | omega) (by omega)]; first | exact c0_0 | go_simp
 replace c1_0 : w7.cell? ⟨w.heap.size + 1, 0, none⟩ = some (.slice A1_0 x1.Roots.length C1_0) := by rw [hF.cell (by first | (simp; done) | (simp; omega) | omega) (by omega)]; first | exact c1_0 | go_simp
 replace c1_1 : w7.cell? ⟨w.heap.size + 1, 1, none⟩ = some (.slice A1_1 x1.Runs.length C1_1) := by rw [hF.cell (by first | (simp; done) | (simp; omega) | omega) (by omega)]; first | exact c1_1 | go_simp
 replace c2_0 : w7.cell? ⟨w4.heap.size, 0, none⟩ = some (.slice Ai0_0 x0.Nodes.length Ci0_0) := by rw [hF.cell (by first | (simp; done) | (simp; omega) | omega) (by omega)]; first | exact c2_0 | go_simp
 replace c3_0 : w7.cell? ⟨w5.heap.size, 0, none⟩ = some (.slice Ai1_0 x1.Roots.length Ci1_0) := by rw [hF.cell (by first | (simp; done) | (simp; omega) | omega) (by omega)]; first | exact c3_0 | go_simp
 replace c3_1 : w7.cell? ⟨w5.heap.size, 1, none⟩ = some (.slice Ai1_1 x1.Runs.length Ci1_1) := by rw [hF.cell (by first | (simp; done) | (simp; omega) | omega) (by omega)]; first | exact c3_1 | go_simp
 replace z0 : w.heap.size < w7.heap.size := by omega
 replace z1 : w.heap.size + 1 < w7.heap.size := by omega
 replace z2 : w4.heap.size < w7.heap.size := by omega
 replace z3 : w5.heap.size < w7.heap.size := by omega
 have HB_7 := Asd.mk (Far.trans3 (HB_6.out) hF (by omega))
 replace I_w0 := Asd.mk ((I_w0.out.below (Below.refl _ _)).far hF (by omega))
 replace I_i0 := Asd.mk ((I_i0.out.below (Below.refl _ _)).far hF (by omega))
 replace I_i1 := Asd.mk ((I_i1.out.below (Below.refl _ _)).far hF (by omega))
 replace I_g0 := Asd.mk ((I_g0.out.below (Below.refl _ _)).far hF (by omega))
 clear hF hb
 have yx_0 : eqB x0 x0 = true := eqB_yes rfl
 have hkeep : ∀ W W', Below W.heap.size W W' → (Below w7.heap.size w7 W ∧ W.cell? ⟨w.heap.size, 0, none⟩ = some (.slice A0_0 x0.Nodes.length C0_0) ∧ W.cell? ⟨w4.heap.size, 0, none⟩ = some (.slice Ai0_0 x0.Nodes.length Ci0_0)) → (Below w7.heap.size w7 W' ∧ W'.cell? ⟨w.heap.size, 0, none⟩ = some (.slice A0_0 x0.Nodes.length C0_0) ∧ W'.cell? ⟨w4.heap.size, 0, none⟩ = some (.slice Ai0_0 x0.Nodes.length Ci0_0)) := by
  rintro W W' hb ⟨q_0, q_1, q_2⟩
  exact ⟨below_st q_0 hb, cell_below hb q_1, cell_below hb q_2⟩
 replace hkeep := Asd.mk hkeep
 have hbs : Below w7.heap.size w7 w7.drew := (Below.refl _ _).drew
 go_wp2
 go_region_held3 (fun W => Below w7.heap.size w7 W ∧ W.cell? ⟨w.heap.size, 0, none⟩ = some (.slice A0_0 x0.Nodes.length C0_0) ∧ W.cell? ⟨w4.heap.size, 0, none⟩ = some (.slice Ai0_0 x0.Nodes.length Ci0_0)) (go_keep)
  (first | (go_at_call 18; refine (toWeb_calls x0 _ (H0.out.below (below_st HB_7.out (by assumption))) (by omega)).mono ?_; rintro e W6 ⟨us, rfl, ⟨F_, o_, n_, l_⟩, hb⟩; obtain ⟨v_0, G_0, rfl, p_0, rfl⟩ := Web.oopen o_; obtain ⟨D_0, d_0, rfl, _, _⟩ := own_slice p_0; have r6 := Asd.mk o_.rep; obtain ⟨s_0, s_1, s_2⟩ := hkeep.out _ _ hb ⟨by assumption, by first | assumption | exact c0_0, by first | assumption | exact c2_0⟩; clear hb o_ l_ p_0) | (go_at_call 21; refine (eqWeb_calls x0 x0 _ (I_i0.out.reps.below (by assumption)) r6.out).mono ?_; rintro e w8 ⟨rfl, hb⟩; obtain ⟨s_0, s_1, s_2⟩ := hkeep.out _ _ hb ⟨by assumption, by first | assumption | exact c0_0, by first | assumption | exact c2_0⟩; clear hb))
 have hF : Far 0 0 w7 w8 := Far.of_below s_0
 clear hkeep s_0 s_1 s_2 r6 hbs
 have zs8 : w7.heap.size ≤ w8.heap.size := by have := hF.size; (try simp at this); omega
 replace c0_0 : w8.cell? ⟨w.heap.size, 0, none⟩ = some (.slice A0_0 x0.Nodes.length C0_0) := by rw [hF.cell (by first | (simp; done) | (simp; omega) | omega) (by omega)]; first | exact c0_0 | go_simp
 replace c1_0 : w8.cell? ⟨w.heap.size + 1, 0, none⟩ = some (.slice A1_0 x1.Roots.length C1_0) := by rw [hF.cell (by first | (simp; done) | (simp; omega) | omega) (by omega)]; first | exact c1_0 | go_simp
 replace c1_1 : w8.cell? ⟨w.heap.size + 1, 1, none⟩ = some (.slice A1_1 x1.Runs.length C1_1) := by rw [hF.cell (by first | (simp; done) | (simp; omega) | omega) (by omega)]; first | exact c1_1 | go_simp
 replace c2_0 : w8.cell? ⟨w4.heap.size, 0, none⟩ = some (.slice Ai0_0 x0.Nodes.length Ci0_0) := by rw [hF.cell (by first | (simp; done) | (simp; omega) | omega) (by omega)]; first | exact c2_0 | go_simp
 replace c3_0 : w8.cell? ⟨w5.heap.size, 0, none⟩ = some (.slice Ai1_0 x1.Roots.length Ci1_0) := by rw [hF.cell (by first | (simp; done) | (simp; omega) | omega) (by omega)]; first | exact c3_0 | go_simp
 replace c3_1 : w8.cell? ⟨w5.heap.size, 1, none⟩ = some (.slice Ai1_1 x1.Runs.length Ci1_1) := by rw [hF.cell (by first | (simp; done) | (simp; omega) | omega) (by omega)]; first | exact c3_1 | go_simp
 replace z0 : w.heap.size < w8.heap.size := by omega
 replace z1 : w.heap.size + 1 < w8.heap.size := by omega
 replace z2 : w4.heap.size < w8.heap.size := by omega
 replace z3 : w5.heap.size < w8.heap.size := by omega
 have HB_8 := Asd.mk (Far.trans3 (HB_7.out) hF (by omega))
 replace I_w0 := Asd.mk ((I_w0.out.below (Below.refl _ _)).far hF (by omega))
 replace I_i0 := Asd.mk ((I_i0.out.below (Below.refl _ _)).far hF (by omega))
 replace I_i1 := Asd.mk ((I_i1.out.below (Below.refl _ _)).far hF (by omega))
 replace I_g0 := Asd.mk ((I_g0.out.below (Below.refl _ _)).far hF (by omega))
 clear hF
 have yx_1 : eqB x1 x1 = true := eqB_yes rfl
 have hkeep : ∀ W W', Below W.heap.size W W' → (Below w8.heap.size w8 W ∧ W.cell? ⟨w.heap.size + 1, 0, none⟩ = some (.slice A1_0 x1.Roots.length C1_0) ∧ W.cell? ⟨w.heap.size + 1, 1, none⟩ = some (.slice A1_1 x1.Runs.length C1_1) ∧ W.cell? ⟨w5.heap.size, 0, none⟩ = some (.slice Ai1_0 x1.Roots.length Ci1_0) ∧ W.cell? ⟨w5.heap.size, 1, none⟩ = some (.slice Ai1_1 x1.Runs.length Ci1_1)) → (Below w8.heap.size w8 W' ∧ W'.cell? ⟨w.heap.size + 1, 0, none⟩ = some (.slice A1_0 x1.Roots.length C1_0) ∧ W'.cell? ⟨w.heap.size + 1, 1, none⟩ = some (.slice A1_1 x1.Runs.length C1_1) ∧ W'.cell? ⟨w5.heap.size, 0, none⟩ = some (.slice Ai1_0 x1.Roots.length Ci1_0) ∧ W'.cell? ⟨w5.heap.size, 1, none⟩ = some (.slice Ai1_1 x1.Runs.length Ci1_1)) := by
  rintro W W' hb ⟨q_0, q_1, q_2, q_3, q_4⟩
  exact ⟨below_st q_0 hb, cell_below hb q_1, cell_below hb q_2, cell_below hb q_3, cell_below hb q_4⟩
 replace hkeep := Asd.mk hkeep
 have hbs : Below w8.heap.size w8 w8.drew := (Below.refl _ _).drew
 go_wp2
 go_region_held3 (fun W => Below w8.heap.size w8 W ∧ W.cell? ⟨w.heap.size + 1, 0, none⟩ = some (.slice A1_0 x1.Roots.length C1_0) ∧ W.cell? ⟨w.heap.size + 1, 1, none⟩ = some (.slice A1_1 x1.Runs.length C1_1) ∧ W.cell? ⟨w5.heap.size, 0, none⟩ = some (.slice Ai1_0 x1.Roots.length Ci1_0) ∧ W.cell? ⟨w5.heap.size, 1, none⟩ = some (.slice Ai1_1 x1.Runs.length Ci1_1)) (go_keep)
  (first | (go_at_call 19; refine (toState_calls x1 _ (H1.out.below (below_st HB_8.out (by assumption))) (by omega)).mono ?_; rintro e W6 ⟨us, rfl, ⟨F_, o_, n_, l_⟩, hb⟩; obtain ⟨v_0, G_0, v_1, G_1, rfl, p_0, p_1, rfl⟩ := State.oopen o_; obtain ⟨D_0, d_0, rfl, _, _⟩ := own_slice p_0; obtain ⟨D_1, d_1, rfl, _, _⟩ := own_slice p_1; have r6 := Asd.mk o_.rep; obtain ⟨s_0, s_1, s_2, s_3, s_4⟩ := hkeep.out _ _ hb ⟨by assumption, by first | assumption | exact c1_0, by first | assumption | exact c1_1, by first | assumption | exact c3_0, by first | assumption | exact c3_1⟩; clear hb o_ l_ p_0 p_1) | (go_at_call 22; refine (eqState_calls x1 x1 _ (I_i1.out.reps.below (by assumption)) r6.out).mono ?_; rintro e w9 ⟨rfl, hb⟩; obtain ⟨s_0, s_1, s_2, s_3, s_4⟩ := hkeep.out _ _ hb ⟨by assumption, by first | assumption | exact c1_0, by first | assumption | exact c1_1, by first | assumption | exact c3_0, by first | assumption | exact c3_1⟩; clear hb))
 have hF : Far 0 0 w8 w9 := Far.of_below s_0
 clear hkeep s_0 s_1 s_2 s_3 s_4 r6 hbs
 have zs9 : w8.heap.size ≤ w9.heap.size := by have := hF.size; (try simp at this); omega
 replace c0_0 : w9.cell? ⟨w.heap.size, 0, none⟩ = some (.slice A0_0 x0.Nodes.length C0_0) := by rw [hF.cell (by first | (simp; done) | (simp; omega) | omega) (by omega)]; first | exact c0_0 | go_simp
 replace c1_0 : w9.cell? ⟨w.heap.size + 1, 0, none⟩ = some (.slice A1_0 x1.Roots.length C1_0) := by rw [hF.cell (by first | (simp; done) | (simp; omega) | omega) (by omega)]; first | exact c1_0 | go_simp
 replace c1_1 : w9.cell? ⟨w.heap.size + 1, 1, none⟩ = some (.slice A1_1 x1.Runs.length C1_1) := by rw [hF.cell (by first | (simp; done) | (simp; omega) | omega) (by omega)]; first | exact c1_1 | go_simp
 replace c2_0 : w9.cell? ⟨w4.heap.size, 0, none⟩ = some (.slice Ai0_0 x0.Nodes.length Ci0_0) := by rw [hF.cell (by first | (simp; done) | (simp; omega) | omega) (by omega)]; first | exact c2_0 | go_simp
 replace c3_0 : w9.cell? ⟨w5.heap.size, 0, none⟩ = some (.slice Ai1_0 x1.Roots.length Ci1_0) := by rw [hF.cell (by first | (simp; done) | (simp; omega) | omega) (by omega)]; first | exact c3_0 | go_simp
 replace c3_1 : w9.cell? ⟨w5.heap.size, 1, none⟩ = some (.slice Ai1_1 x1.Runs.length Ci1_1) := by rw [hF.cell (by first | (simp; done) | (simp; omega) | omega) (by omega)]; first | exact c3_1 | go_simp
 replace z0 : w.heap.size < w9.heap.size := by omega
 replace z1 : w.heap.size + 1 < w9.heap.size := by omega
 replace z2 : w4.heap.size < w9.heap.size := by omega
 replace z3 : w5.heap.size < w9.heap.size := by omega
 have HB_9 := Asd.mk (Far.trans3 (HB_8.out) hF (by omega))
 replace I_w0 := Asd.mk ((I_w0.out.below (Below.refl _ _)).far hF (by omega))
 replace I_i0 := Asd.mk ((I_i0.out.below (Below.refl _ _)).far hF (by omega))
 replace I_i1 := Asd.mk ((I_i1.out.below (Below.refl _ _)).far hF (by omega))
 replace I_g0 := Asd.mk ((I_g0.out.below (Below.refl _ _)).far hF (by omega))
 clear hF
 go_wp2_with fail
 refine (markWeb_calls (x0) _ _ (1) _ _ (by first | rfl | omega) (I_i0.out.below (Below.refl _ _)) (by omega) (by have := ka0.out; omega)).mono ?_
 rintro e w10 ⟨he, hI, hF⟩
 rw [ka0.out] at he
 subst he
 replace hI := Asd.mk hI
 have zs10 : w9.heap.size ≤ w10.heap.size := by have := hF.size; (try simp at this); omega
 replace c0_0 : w10.cell? ⟨w.heap.size, 0, none⟩ = some (.slice A0_0 x0.Nodes.length C0_0) := by rw [hF.cell (by first | (simp; done) | (simp; omega) | omega) (by omega)]; first | exact c0_0 | go_simp
 replace c1_0 : w10.cell? ⟨w.heap.size + 1, 0, none⟩ = some (.slice A1_0 x1.Roots.length C1_0) := by rw [hF.cell (by first | (simp; done) | (simp; omega) | omega) (by omega)]; first | exact c1_0 | go_simp
 replace c1_1 : w10.cell? ⟨w.heap.size + 1, 1, none⟩ = some (.slice A1_1 x1.Runs.length C1_1) := by rw [hF.cell (by first | (simp; done) | (simp; omega) | omega) (by omega)]; first | exact c1_1 | go_simp
 replace c2_0 : w10.cell? ⟨w4.heap.size, 0, none⟩ = some (.slice Ai0_0 x0.Nodes.length Ci0_0) := by rw [hF.cell (by first | (simp; done) | (simp; omega) | omega) (by omega)]; first | exact c2_0 | go_simp
 replace c3_0 : w10.cell? ⟨w5.heap.size, 0, none⟩ = some (.slice Ai1_0 x1.Roots.length Ci1_0) := by rw [hF.cell (by first | (simp; done) | (simp; omega) | omega) (by omega)]; first | exact c3_0 | go_simp
 replace c3_1 : w10.cell? ⟨w5.heap.size, 1, none⟩ = some (.slice Ai1_1 x1.Runs.length Ci1_1) := by rw [hF.cell (by first | (simp; done) | (simp; omega) | omega) (by omega)]; first | exact c3_1 | go_simp
 replace z0 : w.heap.size < w10.heap.size := by omega
 replace z1 : w.heap.size + 1 < w10.heap.size := by omega
 replace z2 : w4.heap.size < w10.heap.size := by omega
 replace z3 : w5.heap.size < w10.heap.size := by omega
 have HB_10 := Asd.mk (Far.trans3 (HB_9.out) hF (by omega))
 replace I_w0 := Asd.mk ((I_w0.out.below (Below.refl _ _)).far hF (by omega))
 replace I_i1 := Asd.mk ((I_i1.out.below (Below.refl _ _)).far hF (by omega))
 replace I_g0 := Asd.mk ((I_g0.out.below (Below.refl _ _)).far hF (by omega))
 clear hF
 clear I_i0 hI
 go_wp2_with fail
 refine (markState_calls (x1) _ _ (KA0) _ _ (by first | rfl | omega) (I_i1.out.below (Below.refl _ _)) (by omega) (by have := ka1.out; omega)).mono ?_
 rintro e w11 ⟨he, hI, hF⟩
 rw [ka1.out] at he
 subst he
 replace hI := Asd.mk hI
 have zs11 : w10.heap.size ≤ w11.heap.size := by have := hF.size; (try simp at this); omega
 replace c0_0 : w11.cell? ⟨w.heap.size, 0, none⟩ = some (.slice A0_0 x0.Nodes.length C0_0) := by rw [hF.cell (by first | (simp; done) | (simp; omega) | omega) (by omega)]; first | exact c0_0 | go_simp
 replace c1_0 : w11.cell? ⟨w.heap.size + 1, 0, none⟩ = some (.slice A1_0 x1.Roots.length C1_0) := by rw [hF.cell (by first | (simp; done) | (simp; omega) | omega) (by omega)]; first | exact c1_0 | go_simp
 replace c1_1 : w11.cell? ⟨w.heap.size + 1, 1, none⟩ = some (.slice A1_1 x1.Runs.length C1_1) := by rw [hF.cell (by first | (simp; done) | (simp; omega) | omega) (by omega)]; first | exact c1_1 | go_simp
 replace c2_0 : w11.cell? ⟨w4.heap.size, 0, none⟩ = some (.slice Ai0_0 x0.Nodes.length Ci0_0) := by rw [hF.cell (by first | (simp; done) | (simp; omega) | omega) (by omega)]; first | exact c2_0 | go_simp
 replace c3_0 : w11.cell? ⟨w5.heap.size, 0, none⟩ = some (.slice Ai1_0 x1.Roots.length Ci1_0) := by rw [hF.cell (by first | (simp; done) | (simp; omega) | omega) (by omega)]; first | exact c3_0 | go_simp
 replace c3_1 : w11.cell? ⟨w5.heap.size, 1, none⟩ = some (.slice Ai1_1 x1.Runs.length Ci1_1) := by rw [hF.cell (by first | (simp; done) | (simp; omega) | omega) (by omega)]; first | exact c3_1 | go_simp
 replace z0 : w.heap.size < w11.heap.size := by omega
 replace z1 : w.heap.size + 1 < w11.heap.size := by omega
 replace z2 : w4.heap.size < w11.heap.size := by omega
 replace z3 : w5.heap.size < w11.heap.size := by omega
 have HB_11 := Asd.mk (Far.trans3 (HB_10.out) hF (by omega))
 replace I_w0 := Asd.mk ((I_w0.out.below (Below.refl _ _)).far hF (by omega))
 replace I_g0 := Asd.mk ((I_g0.out.below (Below.refl _ _)).far hF (by omega))
 clear hF
 clear I_i1 hI
 go_wp2_with fail
 refine (eqStringS_calls (g) (g) _ _ _ (reps_one (I_g0.out.reps.below (Below.refl _ _))) (reps_one (I_w0.out.reps.below (Below.refl _ _)))).mono ?_
 rintro e w12 ⟨rfl, hb⟩
 have hF := Far.of_below hb
 have zs12 : w11.heap.size ≤ w12.heap.size := by have := hF.size; (try simp at this); omega
 replace c0_0 : w12.cell? ⟨w.heap.size, 0, none⟩ = some (.slice A0_0 x0.Nodes.length C0_0) := by rw [hF.cell (by first | (simp; done) | (simp; omega) | omega) (by omega)]; first | exact c0_0 | go_simp
 replace c1_0 : w12.cell? ⟨w.heap.size + 1, 0, none⟩ = some (.slice A1_0 x1.Roots.length C1_0) := by rw [hF.cell (by first | (simp; done) | (simp; omega) | omega) (by omega)]; first | exact c1_0 | go_simp
 replace c1_1 : w12.cell? ⟨w.heap.size + 1, 1, none⟩ = some (.slice A1_1 x1.Runs.length C1_1) := by rw [hF.cell (by first | (simp; done) | (simp; omega) | omega) (by omega)]; first | exact c1_1 | go_simp
 replace c2_0 : w12.cell? ⟨w4.heap.size, 0, none⟩ = some (.slice Ai0_0 x0.Nodes.length Ci0_0) := by rw [hF.cell (by first | (simp; done) | (simp; omega) | omega) (by omega)]; first | exact c2_0 | go_simp
 replace c3_0 : w12.cell? ⟨w5.heap.size, 0, none⟩ = some (.slice Ai1_0 x1.Roots.length Ci1_0) := by rw [hF.cell (by first | (simp; done) | (simp; omega) | omega) (by omega)]; first | exact c3_0 | go_simp
 replace c3_1 : w12.cell? ⟨w5.heap.size, 1, none⟩ = some (.slice Ai1_1 x1.Runs.length Ci1_1) := by rw [hF.cell (by first | (simp; done) | (simp; omega) | omega) (by omega)]; first | exact c3_1 | go_simp
 replace z0 : w.heap.size < w12.heap.size := by omega
 replace z1 : w.heap.size + 1 < w12.heap.size := by omega
 replace z2 : w4.heap.size < w12.heap.size := by omega
 replace z3 : w5.heap.size < w12.heap.size := by omega
 have HB_12 := Asd.mk (Far.trans3 (HB_11.out) hF (by omega))
 replace I_w0 := Asd.mk ((I_w0.out.below (Below.refl _ _)).far hF (by omega))
 replace I_g0 := Asd.mk ((I_g0.out.below (Below.refl _ _)).far hF (by omega))
 clear hF hb
 go_wp2_with fail
 refine (markStringS_iv (g) _ _ (1) _ _ _ (by first | rfl | omega) (I_g0.out.below (Below.refl _ _)) (by omega) (by have := kg0.out; omega)).mono ?_
 rintro e w13 ⟨he, hI, hF⟩
 rw [kg0.out] at he
 subst he
 replace hI := Asd.mk hI
 have zs13 : w12.heap.size ≤ w13.heap.size := by have := hF.size; (try simp at this); omega
 replace c0_0 : w13.cell? ⟨w.heap.size, 0, none⟩ = some (.slice A0_0 x0.Nodes.length C0_0) := by rw [hF.cell (by first | (simp; done) | (simp; omega) | omega) (by omega)]; first | exact c0_0 | go_simp
 replace c1_0 : w13.cell? ⟨w.heap.size + 1, 0, none⟩ = some (.slice A1_0 x1.Roots.length C1_0) := by rw [hF.cell (by first | (simp; done) | (simp; omega) | omega) (by omega)]; first | exact c1_0 | go_simp
 replace c1_1 : w13.cell? ⟨w.heap.size + 1, 1, none⟩ = some (.slice A1_1 x1.Runs.length C1_1) := by rw [hF.cell (by first | (simp; done) | (simp; omega) | omega) (by omega)]; first | exact c1_1 | go_simp
 replace c2_0 : w13.cell? ⟨w4.heap.size, 0, none⟩ = some (.slice Ai0_0 x0.Nodes.length Ci0_0) := by rw [hF.cell (by first | (simp; done) | (simp; omega) | omega) (by omega)]; first | exact c2_0 | go_simp
 replace c3_0 : w13.cell? ⟨w5.heap.size, 0, none⟩ = some (.slice Ai1_0 x1.Roots.length Ci1_0) := by rw [hF.cell (by first | (simp; done) | (simp; omega) | omega) (by omega)]; first | exact c3_0 | go_simp
 replace c3_1 : w13.cell? ⟨w5.heap.size, 1, none⟩ = some (.slice Ai1_1 x1.Runs.length Ci1_1) := by rw [hF.cell (by first | (simp; done) | (simp; omega) | omega) (by omega)]; first | exact c3_1 | go_simp
 replace z0 : w.heap.size < w13.heap.size := by omega
 replace z1 : w.heap.size + 1 < w13.heap.size := by omega
 replace z2 : w4.heap.size < w13.heap.size := by omega
 replace z3 : w5.heap.size < w13.heap.size := by omega
 have HB_13 := Asd.mk (Far.trans3 (HB_12.out) hF (by omega))
 replace I_w0 := Asd.mk ((I_w0.out.below (Below.refl _ _)).far hF (by omega))
 clear hF
 clear I_g0
 have I_m0 := hI
 clear hI
 go_wp2_with fail
 refine (heldStringS_iv (g) _ _ (1) _ _ _ (by first | rfl | omega) (I_m0.out.below (Below.refl _ _)) (by omega) (by have := kg0.out; omega)).mono ?_
 rintro e w14 ⟨he, hb⟩
 have hF := Far.of_below hb
 rw [kg0.out] at he
 subst he
 have zs14 : w13.heap.size ≤ w14.heap.size := by have := hF.size; (try simp at this); omega
 replace c0_0 : w14.cell? ⟨w.heap.size, 0, none⟩ = some (.slice A0_0 x0.Nodes.length C0_0) := by rw [hF.cell (by first | (simp; done) | (simp; omega) | omega) (by omega)]; first | exact c0_0 | go_simp
 replace c1_0 : w14.cell? ⟨w.heap.size + 1, 0, none⟩ = some (.slice A1_0 x1.Roots.length C1_0) := by rw [hF.cell (by first | (simp; done) | (simp; omega) | omega) (by omega)]; first | exact c1_0 | go_simp
 replace c1_1 : w14.cell? ⟨w.heap.size + 1, 1, none⟩ = some (.slice A1_1 x1.Runs.length C1_1) := by rw [hF.cell (by first | (simp; done) | (simp; omega) | omega) (by omega)]; first | exact c1_1 | go_simp
 replace c2_0 : w14.cell? ⟨w4.heap.size, 0, none⟩ = some (.slice Ai0_0 x0.Nodes.length Ci0_0) := by rw [hF.cell (by first | (simp; done) | (simp; omega) | omega) (by omega)]; first | exact c2_0 | go_simp
 replace c3_0 : w14.cell? ⟨w5.heap.size, 0, none⟩ = some (.slice Ai1_0 x1.Roots.length Ci1_0) := by rw [hF.cell (by first | (simp; done) | (simp; omega) | omega) (by omega)]; first | exact c3_0 | go_simp
 replace c3_1 : w14.cell? ⟨w5.heap.size, 1, none⟩ = some (.slice Ai1_1 x1.Runs.length Ci1_1) := by rw [hF.cell (by first | (simp; done) | (simp; omega) | omega) (by omega)]; first | exact c3_1 | go_simp
 replace z0 : w.heap.size < w14.heap.size := by omega
 replace z1 : w.heap.size + 1 < w14.heap.size := by omega
 replace z2 : w4.heap.size < w14.heap.size := by omega
 replace z3 : w5.heap.size < w14.heap.size := by omega
 have HB_14 := Asd.mk (Far.trans3 (HB_13.out) hF (by omega))
 replace I_w0 := Asd.mk ((I_w0.out.below (Below.refl _ _)).far hF (by omega))
 replace I_m0 := Asd.mk ((I_m0.out.below (Below.refl _ _)).far hF (by omega))
 clear hF hb
 have hkeep := Asd.mk (show ∀ W, Below w14.heap.size w14 W → (Below w14.heap.size w14 W ∧ W.cell? ⟨w.heap.size, 0, none⟩ = some (.slice A0_0 x0.Nodes.length C0_0) ∧ W.cell? ⟨w.heap.size + 1, 0, none⟩ = some (.slice A1_0 x1.Roots.length C1_0) ∧ W.cell? ⟨w.heap.size + 1, 1, none⟩ = some (.slice A1_1 x1.Runs.length C1_1)) from fun W hb => ⟨hb, cell_below hb c0_0, cell_below hb c1_0, cell_below hb c1_1⟩)
 have s_0 : Below w14.heap.size w14 w14.drew := (Below.refl _ _).drew
 go_wp2
 go_region_held3 (fun W => Below w14.heap.size w14 W ∧ W.cell? ⟨w.heap.size, 0, none⟩ = some (.slice A0_0 x0.Nodes.length C0_0) ∧ W.cell? ⟨w.heap.size + 1, 0, none⟩ = some (.slice A1_0 x1.Roots.length C1_0) ∧ W.cell? ⟨w.heap.size + 1, 1, none⟩ = some (.slice A1_1 x1.Runs.length C1_1)) ((refine hkeep.out _ ?_; (repeat first|with_reducible (first|exact Below.refl _ _|exact s_0|refine below_al ?_ _|refine below_dr ?_ _|refine below_d1 ?_)|(with_reducible refine Below.setCell ?_ ?_ _;rotate_left;next => first|(simp;done)|(simp;omega)|omega))))
  (first | (go_at_call 18; refine (toWeb_calls x0 _ (H0.out.below (below_st (HB_14.out) (show Below w14.heap.size w14 _ from by repeat first|with_reducible (first|exact Below.refl _ _|exact s_0|refine below_al ?_ _|refine below_dr ?_ _|refine below_d1 ?_)|(with_reducible refine Below.setCell ?_ ?_ _;rotate_left;next => first|(simp;done)|(simp;omega)|omega)))) (by omega)).mono ?_; rintro e W0 ⟨us, rfl, ⟨F_, o_, n_, l_⟩, hb⟩; obtain ⟨v_0, G_0, rfl, p_0, rfl⟩ := Web.oopen o_; obtain ⟨D0_0, d0_0, rfl, _, _⟩ := own_slice p_0; have r_s0 := Asd.mk o_.rep; obtain ⟨s_0, s_1, s_2, s_3⟩ := hkeep.out _ (below_st (show Below w14.heap.size w14 _ from by repeat first|with_reducible (first|exact Below.refl _ _|exact s_0|refine below_al ?_ _|refine below_dr ?_ _|refine below_d1 ?_)|(with_reducible refine Below.setCell ?_ ?_ _;rotate_left;next => first|(simp;done)|(simp;omega)|omega)) hb); clear hb o_ l_ n_ p_0) | (go_at_call 19; refine (toState_calls x1 _ (H1.out.below (below_st (HB_14.out) (show Below w14.heap.size w14 _ from by repeat first|with_reducible (first|exact Below.refl _ _|exact s_0|refine below_al ?_ _|refine below_dr ?_ _|refine below_d1 ?_)|(with_reducible refine Below.setCell ?_ ?_ _;rotate_left;next => first|(simp;done)|(simp;omega)|omega)))) (by omega)).mono ?_; rintro e W1 ⟨us, rfl, ⟨F_, o_, n_, l_⟩, hb⟩; obtain ⟨v_0, G_0, v_1, G_1, rfl, p_0, p_1, rfl⟩ := State.oopen o_; obtain ⟨D1_0, d1_0, rfl, _, _⟩ := own_slice p_0; obtain ⟨D1_1, d1_1, rfl, _, _⟩ := own_slice p_1; have r_s1 := Asd.mk o_.rep; replace r_s0 := Asd.mk (r_s0.out.below (below_st (by repeat first|with_reducible (first|exact Below.refl _ _|exact Below.refl _ _|refine below_al ?_ _|refine below_dr ?_ _|refine below_d1 ?_)|(with_reducible refine Below.setCell ?_ ?_ _;rotate_left;next => first|(simp;done)|(simp;omega)|omega)) hb)); obtain ⟨s_0, s_1, s_2, s_3⟩ := hkeep.out _ (below_st (show Below w14.heap.size w14 _ from by repeat first|with_reducible (first|exact Below.refl _ _|exact s_0|refine below_al ?_ _|refine below_dr ?_ _|refine below_d1 ?_)|(with_reducible refine Below.setCell ?_ ?_ _;rotate_left;next => first|(simp;done)|(simp;omega)|omega)) hb); clear hb o_ l_ n_ p_0 p_1) | (go_at_call 53; refine (Stuck_calls x0 x1 _ (r_s0.out.below (by repeat first|with_reducible (first|exact Below.refl _ _|exact Below.refl _ _|refine below_al ?_ _|refine below_dr ?_ _|refine below_d1 ?_)|(with_reducible refine Below.setCell ?_ ?_ _;rotate_left;next => first|(simp;done)|(simp;omega)|omega))) (r_s1.out.below (by repeat first|with_reducible (first|exact Below.refl _ _|exact Below.refl _ _|refine below_al ?_ _|refine below_dr ?_ _|refine below_d1 ?_)|(with_reducible refine Below.setCell ?_ ?_ _;rotate_left;next => first|(simp;done)|(simp;omega)|omega))) (Web.zsm hz0.out) (Nat.lt_of_lt_of_le hg (below_st (HB_14.out) (show Below w14.heap.size w14 _ from by repeat first|with_reducible (first|exact Below.refl _ _|exact s_0|refine below_al ?_ _|refine below_dr ?_ _|refine below_d1 ?_)|(with_reducible refine Below.setCell ?_ ?_ _;rotate_left;next => first|(simp;done)|(simp;omega)|omega))).size) (cell_below (below_st (HB_14.out) (show Below w14.heap.size w14 _ from by repeat first|with_reducible (first|exact Below.refl _ _|exact s_0|refine below_al ?_ _|refine below_dr ?_ _|refine below_d1 ?_)|(with_reducible refine Below.setCell ?_ ?_ _;rotate_left;next => first|(simp;done)|(simp;omega)|omega))) ht)).mono ?_; rw [gx]; rintro e w15 ⟨v_, rfl, hM, hb⟩; have I_k0 : Asd (Iv _ w15.heap.size w15 ([strsT 9 g]) [v_]) := Asd.mk ((Iv.of_lie hM.lie).mono (Nat.le_refl _) (Nat.le_refl _)); obtain ⟨F_, o_, _, _⟩ := hM; obtain ⟨Ak0, Ck0, rfl, _, _⟩ := own_slice o_; clear o_; obtain ⟨s_0, s_1, s_2, s_3⟩ := hkeep.out _ (below_st (show Below w14.heap.size w14 _ from by repeat first|with_reducible (first|exact Below.refl _ _|exact s_0|refine below_al ?_ _|refine below_dr ?_ _|refine below_d1 ?_)|(with_reducible refine Below.setCell ?_ ?_ _;rotate_left;next => first|(simp;done)|(simp;omega)|omega)) hb); clear hb))
 have hF : Far 0 0 w14 w15 := Far.of_below s_0
 clear hkeep s_0 s_1 s_2 s_3 r_s0 r_s1
 have zs15 : w14.heap.size ≤ w15.heap.size := by have := hF.size; (try simp at this); omega
 replace c0_0 : w15.cell? ⟨w.heap.size, 0, none⟩ = some (.slice A0_0 x0.Nodes.length C0_0) := by rw [hF.cell (by first | (simp; done) | (simp; omega) | omega) (by omega)]; first | exact c0_0 | go_simp
 replace c1_0 : w15.cell? ⟨w.heap.size + 1, 0, none⟩ = some (.slice A1_0 x1.Roots.length C1_0) := by rw [hF.cell (by first | (simp; done) | (simp; omega) | omega) (by omega)]; first | exact c1_0 | go_simp
 replace c1_1 : w15.cell? ⟨w.heap.size + 1, 1, none⟩ = some (.slice A1_1 x1.Runs.length C1_1) := by rw [hF.cell (by first | (simp; done) | (simp; omega) | omega) (by omega)]; first | exact c1_1 | go_simp
 replace c2_0 : w15.cell? ⟨w4.heap.size, 0, none⟩ = some (.slice Ai0_0 x0.Nodes.length Ci0_0) := by rw [hF.cell (by first | (simp; done) | (simp; omega) | omega) (by omega)]; first | exact c2_0 | go_simp
 replace c3_0 : w15.cell? ⟨w5.heap.size, 0, none⟩ = some (.slice Ai1_0 x1.Roots.length Ci1_0) := by rw [hF.cell (by first | (simp; done) | (simp; omega) | omega) (by omega)]; first | exact c3_0 | go_simp
 replace c3_1 : w15.cell? ⟨w5.heap.size, 1, none⟩ = some (.slice Ai1_1 x1.Runs.length Ci1_1) := by rw [hF.cell (by first | (simp; done) | (simp; omega) | omega) (by omega)]; first | exact c3_1 | go_simp
 replace z0 : w.heap.size < w15.heap.size := by omega
 replace z1 : w.heap.size + 1 < w15.heap.size := by omega
 replace z2 : w4.heap.size < w15.heap.size := by omega
 replace z3 : w5.heap.size < w15.heap.size := by omega
 have HB_15 := Asd.mk (Far.trans3 (HB_14.out) hF (by omega))
 replace I_w0 := Asd.mk ((I_w0.out.below (Below.refl _ _)).far hF (by omega))
 replace I_m0 := Asd.mk ((I_m0.out.below (Below.refl _ _)).far hF (by omega))
 clear hF
 go_wp2_with fail
 refine (eqStringS_calls (g) (g) _ _ _ (reps_one (I_k0.out.reps.below (Below.refl _ _))) (reps_one (I_w0.out.reps.below (Below.refl _ _)))).mono ?_
 rintro e w16 ⟨rfl, hb⟩
 have hF := Far.of_below hb
 have zs16 : w15.heap.size ≤ w16.heap.size := by have := hF.size; (try simp at this); omega
 replace c0_0 : w16.cell? ⟨w.heap.size, 0, none⟩ = some (.slice A0_0 x0.Nodes.length C0_0) := by rw [hF.cell (by first | (simp; done) | (simp; omega) | omega) (by omega)]; first | exact c0_0 | go_simp
 replace c1_0 : w16.cell? ⟨w.heap.size + 1, 0, none⟩ = some (.slice A1_0 x1.Roots.length C1_0) := by rw [hF.cell (by first | (simp; done) | (simp; omega) | omega) (by omega)]; first | exact c1_0 | go_simp
 replace c1_1 : w16.cell? ⟨w.heap.size + 1, 1, none⟩ = some (.slice A1_1 x1.Runs.length C1_1) := by rw [hF.cell (by first | (simp; done) | (simp; omega) | omega) (by omega)]; first | exact c1_1 | go_simp
 replace c2_0 : w16.cell? ⟨w4.heap.size, 0, none⟩ = some (.slice Ai0_0 x0.Nodes.length Ci0_0) := by rw [hF.cell (by first | (simp; done) | (simp; omega) | omega) (by omega)]; first | exact c2_0 | go_simp
 replace c3_0 : w16.cell? ⟨w5.heap.size, 0, none⟩ = some (.slice Ai1_0 x1.Roots.length Ci1_0) := by rw [hF.cell (by first | (simp; done) | (simp; omega) | omega) (by omega)]; first | exact c3_0 | go_simp
 replace c3_1 : w16.cell? ⟨w5.heap.size, 1, none⟩ = some (.slice Ai1_1 x1.Runs.length Ci1_1) := by rw [hF.cell (by first | (simp; done) | (simp; omega) | omega) (by omega)]; first | exact c3_1 | go_simp
 replace z0 : w.heap.size < w16.heap.size := by omega
 replace z1 : w.heap.size + 1 < w16.heap.size := by omega
 replace z2 : w4.heap.size < w16.heap.size := by omega
 replace z3 : w5.heap.size < w16.heap.size := by omega
 have HB_16 := Asd.mk (Far.trans3 (HB_15.out) hF (by omega))
 replace I_w0 := Asd.mk ((I_w0.out.below (Below.refl _ _)).far hF (by omega))
 replace I_m0 := Asd.mk ((I_m0.out.below (Below.refl _ _)).far hF (by omega))
 replace I_k0 := Asd.mk ((I_k0.out.below (Below.refl _ _)).far hF (by omega))
 clear hF hb
 go_wp2_with fail
 refine (heldStringS_iv (g) _ _ (1) _ _ _ (by first | rfl | omega) (I_m0.out.below (Below.refl _ _)) (by omega) (by have := kg0.out; omega)).mono ?_
 rintro e w17 ⟨he, hb⟩
 have hF := Far.of_below hb
 rw [kg0.out] at he
 subst he
 have zs17 : w16.heap.size ≤ w17.heap.size := by have := hF.size; (try simp at this); omega
 replace c0_0 : w17.cell? ⟨w.heap.size, 0, none⟩ = some (.slice A0_0 x0.Nodes.length C0_0) := by rw [hF.cell (by first | (simp; done) | (simp; omega) | omega) (by omega)]; first | exact c0_0 | go_simp
 replace c1_0 : w17.cell? ⟨w.heap.size + 1, 0, none⟩ = some (.slice A1_0 x1.Roots.length C1_0) := by rw [hF.cell (by first | (simp; done) | (simp; omega) | omega) (by omega)]; first | exact c1_0 | go_simp
 replace c1_1 : w17.cell? ⟨w.heap.size + 1, 1, none⟩ = some (.slice A1_1 x1.Runs.length C1_1) := by rw [hF.cell (by first | (simp; done) | (simp; omega) | omega) (by omega)]; first | exact c1_1 | go_simp
 replace c2_0 : w17.cell? ⟨w4.heap.size, 0, none⟩ = some (.slice Ai0_0 x0.Nodes.length Ci0_0) := by rw [hF.cell (by first | (simp; done) | (simp; omega) | omega) (by omega)]; first | exact c2_0 | go_simp
 replace c3_0 : w17.cell? ⟨w5.heap.size, 0, none⟩ = some (.slice Ai1_0 x1.Roots.length Ci1_0) := by rw [hF.cell (by first | (simp; done) | (simp; omega) | omega) (by omega)]; first | exact c3_0 | go_simp
 replace c3_1 : w17.cell? ⟨w5.heap.size, 1, none⟩ = some (.slice Ai1_1 x1.Runs.length Ci1_1) := by rw [hF.cell (by first | (simp; done) | (simp; omega) | omega) (by omega)]; first | exact c3_1 | go_simp
 replace z0 : w.heap.size < w17.heap.size := by omega
 replace z1 : w.heap.size + 1 < w17.heap.size := by omega
 replace z2 : w4.heap.size < w17.heap.size := by omega
 replace z3 : w5.heap.size < w17.heap.size := by omega
 have HB_17 := Asd.mk (Far.trans3 (HB_16.out) hF (by omega))
 replace I_w0 := Asd.mk ((I_w0.out.below (Below.refl _ _)).far hF (by omega))
 replace I_m0 := Asd.mk ((I_m0.out.below (Below.refl _ _)).far hF (by omega))
 replace I_k0 := Asd.mk ((I_k0.out.below (Below.refl _ _)).far hF (by omega))
 clear hF hb
 go_wp2
 go_ret
 exact ⟨rfl, HB_17.out⟩
end Go.Proofs.YtkpkfihaihoaeaaGreatDoor.M
end
