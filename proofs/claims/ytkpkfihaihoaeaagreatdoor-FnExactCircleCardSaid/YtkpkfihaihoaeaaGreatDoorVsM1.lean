/- Texts put together: Data as trees: how a value reads in a world ('rep'), and how it lies in blocks of its own ('own'); the laws of make, append and stores for such values. The structs of kilnweb as Lean structures, and their cells as trees. Plain functions: what the functions of kilnweb compute (actions and webs). No program in sight. Contracts: the laws' own sizes. From the row's readings to trees. Contracts: the laws' own arguments. Contracts: names and actions, of the program and of the reference. Contracts: the laws' own sizes. Contracts: the laws' own arguments. Contracts: the laws' own sizes. Contracts: the laws' own arguments. Contracts: the laws' own sizes. Contracts: the laws' own arguments. One cell's reading. Contracts: the laws' own types. Contracts: the laws' own types. Contracts: the laws' own types. Contracts: the laws' own copies. Contracts: the laws' own copies. Contracts: the laws' own copies. Contracts: the laws' own equalities. Contracts: the laws' own equalities. Contracts: the laws' own equalities. Contracts: the laws' own types. Contracts: the laws' own copies. Contracts: the laws' own equalities. Plain functions: webs. -/
import Derived.Below
import Derived.OwnWalk
import Derived.Maps.AppendAt
import Derived.Laws.MakeOwn
import Derived.Laws.OwnMore
import Derived.Deep.AppendLies
import Derived.Deep.AppendSrc
import Derived.Deep.Upon
import Derived.WalkKit
import Derived.KernelRfl
import Derived.RowKit3
import Derived.Deep.LoopGhost
import Derived.Deep.QuietTactic
import Derived.BigQuiet
import Derived.WalkLawsBesides
import Derived.WalkSpells
import Derived.Deep.DeepCutAuto
import Derived.Deep.CutBlock
import Derived.Deep.RegionHeld3
import Derived.Test.YtkpkfihaihoaeaaGreatDoorProg
import Derived.Deep.Slices
import Derived.ChangeArms
import Derived.OpenShut
import Derived.StillTailTactics
section
set_option linter.unusedVariables false
set_option linter.unusedSimpArgs false
namespace Go.Proofs.YtkpkfihaihoaeaaGreatDoor.M
open Go.RowKit

/-- A fact that the walk's simp does not look into. -/
structure Asd (p : Prop) : Prop where mk :: (out : p)

instance : LawfulBEq ByteArray where
 eq_of_beq {a b} h := by
  cases a; cases b
  change ByteArray.beq _ _ = true at h
  unfold ByteArray.beq at h
  simp at h
  rw [h]
 rfl {a} := by cases a; change ByteArray.beq _ _ = true; unfold ByteArray.beq; simp

/-- Data. -/
inductive T where
 | i (k : IntKind) (n : Int)
 | b (x : Bool)
 | s (x : ByteArray)
 | l (e sz n : Nat) (cells : List T)

mutual
def rep (w : World) : T → Value → Prop
 | .i k n, v => v = .int k n
 | .b x, v => v = .bool x
 | .s x, v => v = .string x
 | .l _ sz n cells, v => cells.length = n * sz ∧ n ≤ 9223372036854775807 ∧ ∃ A c vs, v = .slice A n c ∧ n ≤ c ∧ reps w cells vs ∧ (0 < n → ∃ a, A = some a ∧ ∀ j u, vs[j]? = some u → w.cell? (a.add j) = some u)
def reps (w : World) : List T → List Value → Prop
 | [], vs => vs = []
 | t :: ts, vs => ∃ v us, vs = v :: us ∧ rep w t v ∧ reps w ts us
end

mutual
def own (w : World) : T → Value → List Nat → Prop
 | .i k n, v, F => v = .int k n ∧ F = []
 | .b x, v, F => v = .bool x ∧ F = []
 | .s x, v, F => v = .string x ∧ F = []
 | .l e sz n cells, v, F => (∃ vs G, w.ownsRow 0 e sz v n vs ∧ owns w cells vs G ∧ F = v.ownBlock.toList ++ G ∧ ∀ k, v.ownBlock = some k → k ∉ G) ∨ (n = 0 ∧ cells = [] ∧ F = [] ∧ ∃ A, v = .slice (some A) 0 0)
def owns (w : World) : List T → List Value → List Nat → Prop
 | [], vs, F => vs = [] ∧ F = []
 | t :: ts, vs, F => ∃ v us F1 F2, vs = v :: us ∧ own w t v F1 ∧ owns w ts us F2 ∧ F = F1 ++ F2
end

theorem add_zero' (g j : Nat) : (⟨g, 0, none⟩ : Addr).add j = ⟨g, j, none⟩ := by unfold Addr.add; split <;> simp_all
theorem add_fld (ad : Addr) (m j : Nat) (hj : 0 < j) : ad.add (m + j) = ⟨(ad.add m).block, (ad.add m).off + j, none⟩ := by
 unfold Addr.add
 by_cases hm : m = 0
 ·subst hm
  simp [Nat.ne_of_gt hj]
 ·simp [hm, Nat.ne_of_gt hj, show m + j ≠ 0 by omega, Nat.add_assoc]
theorem cell_below {w w1 : World} (h : Below w.heap.size w w1) {a : Addr} {v : Value} (hc : w.cell? a = some v) : w1.cell? a = some v := (h.cell (World.block_lt_of_cell? w a hc)).trans hc

theorem bcell {W w1 : World} (hb : Below W.heap.size W w1) : (∀ b o, b < W.heap.size → w1.cell? ⟨b, o, none⟩ = W.cell? ⟨b, o, none⟩) ∧ (∀ b o, b < W.heap.size → w1.frozen? ⟨b, o, none⟩ = W.frozen? ⟨b, o, none⟩) :=
 ⟨fun b o h => hb.cell (p := ⟨b, o, none⟩) h, fun b o h => hb.frozen (p := ⟨b, o, none⟩) h⟩
theorem below_al {w W : World} (h : Below w.heap.size w W) (o : Obj) : Below w.heap.size w (W.alloc o) := h.alloc h.size o
theorem below_st {w W w2 : World} (h : Below w.heap.size w W) (k : Below W.heap.size W w2) : Below w.heap.size w w2 := h.trans (k.mono h.size)
theorem below_d1 {w W : World} (h : Below w.heap.size w W) : Below w.heap.size w W.drew := ⟨h.os, h.tape, h.output, h.size, h.block⟩
theorem below_dr {w W : World} (h : Below w.heap.size w W) (n : Nat) : Below w.heap.size w (W.drewN n) := ⟨h.os, h.tape, h.output, h.size, h.block⟩

/-! ### reading -/
mutual
theorem rep_below {w w1 : World} (hb : Below w.heap.size w w1) : ∀ (t : T) (v : Value), rep w t v → rep w1 t v
 | .i _ _, _, h => h
 | .b _, _, h => h
 | .s _, _, h => h
 | .l _ _ _ cells, v, h => by
  simp only [rep] at h ⊢
  obtain ⟨h0, h1, A, c, vs, rfl, hc, hr, hcl⟩ := h
  refine ⟨h0, h1, A, c, vs, rfl, hc, reps_below hb cells vs hr, fun hn => ?_⟩
  obtain ⟨a, ha, hu⟩ := hcl hn
  exact ⟨a, ha, fun j u hj => cell_below hb (hu j u hj)⟩
theorem reps_below {w w1 : World} (hb : Below w.heap.size w w1) : ∀ (ts : List T) (vs : List Value), reps w ts vs → reps w1 ts vs
 | [], _, h => h
 | t :: ts, vs, h => by
  simp only [reps] at h ⊢
  obtain ⟨v, us, rfl, h1, h2⟩ := h
  exact ⟨v, us, rfl, rep_below hb t v h1, reps_below hb ts us h2⟩
end
theorem rep.below {w w1 : World} {t : T} {v : Value} (h : rep w t v) (hb : Below w.heap.size w w1) : rep w1 t v := rep_below hb t v h
theorem reps.below {w w1 : World} {t : List T} {v : List Value} (h : reps w t v) (hb : Below w.heap.size w w1) : reps w1 t v := reps_below hb t v h

theorem reps_length {w : World} : ∀ {ts : List T} {vs : List Value}, reps w ts vs → vs.length = ts.length
 | [], _, h => by simp only [reps] at h; subst h; rfl
 | _ :: ts, _, h => by
  simp only [reps] at h
  obtain ⟨v, us, rfl, _, h2⟩ := h
  simp [reps_length h2]
theorem reps_append {w : World} : ∀ {ts us : List T} {vs xs : List Value}, reps w ts vs → reps w us xs → reps w (ts ++ us) (vs ++ xs)
 | [], _, _, _, h, k => by simp only [reps] at h; subst h; exact k
 | t :: ts, us, _, xs, h, k => by
  simp only [reps] at h
  obtain ⟨v, vs, rfl, h1, h2⟩ := h
  simp only [List.cons_append, reps]
  exact ⟨v, vs ++ xs, rfl, h1, reps_append h2 k⟩
theorem reps_drop {w : World} : ∀ (k : Nat) {ts : List T} {vs : List Value}, reps w ts vs → reps w (ts.drop k) (vs.drop k)
 | 0, _, _, h => by simpa using h
 | k + 1, [], _, h => by simp only [reps] at h; subst h; simp [reps]
 | k + 1, t :: ts, _, h => by
  simp only [reps] at h
  obtain ⟨v, us, rfl, _, h2⟩ := h
  simpa using reps_drop k h2
theorem reps_take {w : World} : ∀ (k : Nat) {ts : List T} {vs : List Value}, reps w ts vs → reps w (ts.take k) (vs.take k)
 | 0, _, _, h => by simp [reps]
 | k + 1, [], _, h => by simp only [reps] at h; subst h; simp [reps]
 | k + 1, t :: ts, _, h => by
  simp only [reps] at h
  obtain ⟨v, us, rfl, h1, h2⟩ := h
  simp only [List.take_succ_cons, reps]
  exact ⟨v, _, rfl, h1, reps_take k h2⟩

/-! ### a list of structs as a tree -/
def tl {α : Type} (e sz : Nat) (enc : α → List T) (xs : List α) : T := .l e sz xs.length (xs.flatMap enc)
/-- the kinds' own -/
def strC (x : ByteArray) : List T := [.s x]
def intC (x : Int) : List T := [.i .i64 x]
def byteC (x : UInt8) : List T := [.i .u8 x.toNat]
def strsT (e : Nat) (xs : List ByteArray) : T := tl e 1 strC xs
def intsT (e : Nat) (xs : List Int) : T := tl e 1 intC xs
def bytesT (e : Nat) (xs : List UInt8) : T := tl e 1 byteC xs

theorem drop_flatMap {α β : Type} (f : α → List β) (sz : Nat) (hf : ∀ x, (f x).length = sz) : ∀ (xs : List α) (i : Nat), (xs.flatMap f).drop (i * sz) = (xs.drop i).flatMap f
 | [], i => by simp
 | x :: xs, 0 => by simp
 | x :: xs, i + 1 => by
  rw [List.flatMap_cons, List.drop_succ_cons, ← drop_flatMap f sz hf xs i, Nat.add_mul, Nat.one_mul, Nat.add_comm, ← List.drop_drop]
  congr 1
  rw [List.drop_append_of_le_length (by rw [hf]; omega), List.drop_of_length_le (by rw [hf]; omega)]
  rfl
theorem take_flatMap {α β : Type} (f : α → List β) (sz : Nat) (hf : ∀ x, (f x).length = sz) : ∀ (xs : List α) (i : Nat), (xs.flatMap f).take (i * sz) = (xs.take i).flatMap f
 | [], i => by simp
 | x :: xs, 0 => by simp
 | x :: xs, i + 1 => by
  rw [List.flatMap_cons, List.take_succ_cons, List.flatMap_cons, ← take_flatMap f sz hf xs i, Nat.add_mul, Nat.one_mul, List.take_append, hf, Nat.add_sub_cancel, List.take_of_length_le (by rw [hf]; omega)]
theorem length_flatMap {α β : Type} (f : α → List β) (sz : Nat) (hf : ∀ x, (f x).length = sz) : ∀ (xs : List α), (xs.flatMap f).length = xs.length * sz
 | [] => by simp
 | x :: xs => by rw [List.flatMap_cons, List.length_append, hf, length_flatMap f sz hf xs, List.length_cons, Nat.add_mul]; omega

/-- Element i of a slice that reads as a list. -/
theorem rep_elem {α : Type} {w : World} {e sz : Nat} {enc : α → List T} {xs : List α} {v : Value} (h : rep w (tl e sz enc xs) v) (hf : ∀ x, (enc x).length = sz) {i : Nat} (hi : i < xs.length) :
  ∃ a c us, v = .slice (some a) xs.length c ∧ xs.length ≤ c ∧ xs.length ≤ 9223372036854775807 ∧ reps w (enc xs[i]) us ∧ ∀ q u, us[q]? = some u → w.cell? (a.add (i * sz + q)) = some u := by
 simp only [tl, rep] at h
 obtain ⟨h0, h1, A, c, vs, rfl, hc, hr, hcl⟩ := h
 obtain ⟨a, rfl, hu⟩ := hcl (by omega)
 have hd := reps_take sz (reps_drop (i * sz) hr)
 rw [drop_flatMap enc sz hf, List.drop_eq_getElem_cons hi, List.flatMap_cons, List.take_append_of_le_length (by rw [hf]; omega), List.take_of_length_le (by rw [hf]; omega)] at hd
 refine ⟨a, c, _, rfl, hc, h1, hd, fun q u hq => hu _ _ ?_⟩
 rw [List.getElem?_take] at hq
 split at hq
 ·rwa [List.getElem?_drop] at hq
 ·cases hq
/-- The shape of a slice that reads as a list. -/
theorem rep_len {α : Type} {w : World} {e sz : Nat} {enc : α → List T} {xs : List α} {v : Value} (h : rep w (tl e sz enc xs) v) : ∃ A c, v = .slice A xs.length c ∧ xs.length ≤ c ∧ xs.length ≤ 9223372036854775807 := by
 simp only [tl, rep] at h
 obtain ⟨h0, h1, A, c, vs, rfl, hc, hr, hcl⟩ := h
 exact ⟨A, c, rfl, hc, h1⟩

/-- xs[:k] -/
theorem rep_take {α : Type} {w : World} {e sz : Nat} {enc : α → List T} {xs : List α} {A : Option Addr} {n c : Nat} (h : rep w (tl e sz enc xs) (.slice A n c)) (hf : ∀ x, (enc x).length = sz) {k : Nat} (hk : k ≤ xs.length) : rep w (tl e sz enc (xs.take k)) (.slice A k c) := by
 simp only [tl, rep] at h ⊢
 obtain ⟨h0, h1, A', c', vs, he, hc, hr, hcl⟩ := h
 cases he
 have hl : (xs.take k).length = k := by simp; omega
 have ht := (take_flatMap enc sz hf xs k).symm
 refine ⟨length_flatMap enc sz hf _, by omega, A, c, vs.take (k * sz), by rw [hl], by omega, by rw [ht]; exact reps_take _ hr, fun hp => ?_⟩
 obtain ⟨a, ha, hu⟩ := hcl (by omega)
 refine ⟨a, ha, fun j u hj => hu j u ?_⟩
 rw [List.getElem?_take] at hj
 split at hj
 ·exact hj
 ·cases hj

/-! ### owning -/
mutual
theorem own_lt {w : World} : ∀ (t : T) (v : Value) (F : List Nat), own w t v F → ∀ k ∈ F, k < w.heap.size
 | .i _ _, _, _, h, k, hk => by simp only [own] at h; rw [h.2] at hk; cases hk
 | .b _, _, _, h, k, hk => by simp only [own] at h; rw [h.2] at hk; cases hk
 | .s _, _, _, h, k, hk => by simp only [own] at h; rw [h.2] at hk; cases hk
 | .l _ _ _ cells, v, _, h, k, hk => by
  simp only [own] at h
  rcases h with ⟨vs, G, ho, hr, rfl, _⟩ | ⟨_, _, rfl, _⟩
  rotate_left
  ·cases hk
  rcases List.mem_append.1 hk with hk | hk
  ·exact (ho.lt k (by cases hv : v.ownBlock <;> simp_all)).2
  ·exact owns_lt cells vs G hr k hk
theorem owns_lt {w : World} : ∀ (ts : List T) (vs : List Value) (F : List Nat), owns w ts vs F → ∀ k ∈ F, k < w.heap.size
 | [], _, _, h, k, hk => by simp only [owns] at h; rw [h.2] at hk; cases hk
 | t :: ts, _, _, h, k, hk => by
  simp only [owns] at h
  obtain ⟨v, us, F1, F2, rfl, h1, h2, rfl⟩ := h
  rcases List.mem_append.1 hk with hk | hk
  ·exact own_lt t v F1 h1 k hk
  ·exact owns_lt ts us F2 h2 k hk
end
theorem ownsRow_move {w w1 : World} {base : Nat} {e : TypeId} {size n : Nat} {v : Value} {xs : List Value} (h : w.ownsRow base e size v n xs) (hm : ∀ k, v.ownBlock = some k → w1.heap[k]? = w.heap[k]?) : w1.ownsRow base e size v n xs := by
 obtain ⟨h1, h2⟩ := h
 refine ⟨h1, ?_⟩
 rcases h2 with h2 | ⟨g, cap, cur, rfl, hg, hh, r⟩
 ·exact .inl h2
 ·exact .inr ⟨g, cap, cur, rfl, hg, (hm g (by simp [Value.ownBlock])).trans hh, r⟩
mutual
theorem own_move {w w1 : World} : ∀ (t : T) (v : Value) (F : List Nat), (∀ k ∈ F, w1.heap[k]? = w.heap[k]?) → own w t v F → own w1 t v F
 | .i _ _, _, _, _, h => h
 | .b _, _, _, _, h => h
 | .s _, _, _, _, h => h
 | .l _ _ _ cells, v, _, hm, h => by
  simp only [own] at h ⊢
  rcases h with ⟨vs, G, ho, hr, rfl, hn⟩ | h
  rotate_left
  ·exact .inr h
  refine .inl ⟨vs, G, ownsRow_move ho (fun k hk => hm k (by simp [hk])), owns_move cells vs G (fun k hk => hm k (List.mem_append_right _ hk)) hr, rfl, hn⟩
theorem owns_move {w w1 : World} : ∀ (ts : List T) (vs : List Value) (F : List Nat), (∀ k ∈ F, w1.heap[k]? = w.heap[k]?) → owns w ts vs F → owns w1 ts vs F
 | [], _, _, _, h => h
 | t :: ts, _, _, hm, h => by
  simp only [owns] at h ⊢
  obtain ⟨v, us, F1, F2, rfl, h1, h2, rfl⟩ := h
  exact ⟨v, us, F1, F2, rfl, own_move t v F1 (fun k hk => hm k (List.mem_append_left _ hk)) h1, owns_move ts us F2 (fun k hk => hm k (List.mem_append_right _ hk)) h2, rfl⟩
end
section
variable {w w1 : World} {t : T} {v : Value} {ts : List T} {vs : List Value} {F : List Nat}
theorem own.lt (h : own w t v F) : ∀ k ∈ F, k < w.heap.size := own_lt t v F h
theorem owns.lt (h : owns w ts vs F) : ∀ k ∈ F, k < w.heap.size := owns_lt ts vs F h
theorem own.move (h : own w t v F) (hm : ∀ k ∈ F, w1.heap[k]? = w.heap[k]?) : own w1 t v F := own_move t v F hm h
theorem owns.move (h : owns w ts vs F) (hm : ∀ k ∈ F, w1.heap[k]? = w.heap[k]?) : owns w1 ts vs F := owns_move ts vs F hm h
theorem own.below (h : own w t v F) (hb : Below w.heap.size w w1) : own w1 t v F := h.move fun k hk => hb.block k (h.lt k hk)
theorem owns.below (h : owns w ts vs F) (hb : Below w.heap.size w w1) : owns w1 ts vs F := h.move fun k hk => hb.block k (h.lt k hk)
theorem own.set (h : own w t v F) {p : Addr} (hp : p.block ∉ F) (u : Value) : own (w.setCell p u) t v F := h.move fun k hk => Below.heap_setCell w p u k (fun e => hp (e ▸ hk))
theorem owns.set (h : owns w ts vs F) {p : Addr} (hp : p.block ∉ F) (u : Value) : owns (w.setCell p u) ts vs F := h.move fun k hk => Below.heap_setCell w p u k (fun e => hp (e ▸ hk))
theorem own.alloc (h : own w t v F) (o : Obj) : own (w.alloc o) t v F := h.below ((Below.refl _ _).alloc (Nat.le_refl _) o)
theorem owns.alloc (h : owns w ts vs F) (o : Obj) : owns (w.alloc o) ts vs F := h.below ((Below.refl _ _).alloc (Nat.le_refl _) o)
theorem own.grown (h : own w t v F) {row : Option Nat} (hg : w.grownBy w1 row) (hr : ∀ k, row = some k → k ∉ F) : own w1 t v F := h.move fun k hk => hg.block k (h.lt k hk) (fun e => hr k e.symm hk)
theorem owns.grown (h : owns w ts vs F) {row : Option Nat} (hg : w.grownBy w1 row) (hr : ∀ k, row = some k → k ∉ F) : owns w1 ts vs F := h.move fun k hk => hg.block k (h.lt k hk) (fun e => hr k e.symm hk)
end

theorem owns_length {w : World} : ∀ {ts : List T} {vs : List Value} {F : List Nat}, owns w ts vs F → vs.length = ts.length
 | [], _, _, h => by simp only [owns] at h; rw [h.1]; rfl
 | _ :: ts, _, _, h => by
  simp only [owns] at h
  obtain ⟨v, us, F1, F2, rfl, _, h2, _⟩ := h
  simp [owns_length h2]
theorem owns_append {w : World} : ∀ {ts us : List T} {vs xs : List Value} {F G : List Nat}, owns w ts vs F → owns w us xs G → owns w (ts ++ us) (vs ++ xs) (F ++ G)
 | [], _, _, _, _, _, h, k => by simp only [owns] at h; rw [h.1, h.2]; exact k
 | t :: ts, us, _, xs, _, G, h, k => by
  simp only [owns] at h
  obtain ⟨v, vs, F1, F2, rfl, h1, h2, rfl⟩ := h
  simp only [List.cons_append, owns]
  exact ⟨v, vs ++ xs, F1, F2 ++ G, rfl, h1, owns_append h2 k, by simp⟩
theorem owns_split {w : World} : ∀ {ts us : List T} {vs : List Value} {F : List Nat}, owns w (ts ++ us) vs F → ∃ v1 v2 F1 F2, vs = v1 ++ v2 ∧ owns w ts v1 F1 ∧ owns w us v2 F2 ∧ F = F1 ++ F2
 | [], us, vs, F, h => ⟨[], vs, [], F, rfl, by simp [owns], h, rfl⟩
 | t :: ts, us, vs, F, h => by
  simp only [List.cons_append, owns] at h
  obtain ⟨v, xs, F1, F2, rfl, h1, h2, rfl⟩ := h
  obtain ⟨v1, v2, G1, G2, rfl, k1, k2, rfl⟩ := owns_split h2
  refine ⟨v :: v1, v2, F1 ++ G1, G2, rfl, ?_, k2, by simp⟩
  simp only [owns]
  exact ⟨v, v1, F1, G1, rfl, h1, k1, rfl⟩
theorem own_one {w : World} {t : T} {v : Value} {F : List Nat} (h : own w t v F) : v.oneCell' = true := by
 cases t with
 | i => simp only [own] at h; rw [h.1]; rfl
 | b => simp only [own] at h; rw [h.1]; rfl
 | s => simp only [own] at h; rw [h.1]; rfl
 | l =>
  simp only [own] at h
  rcases h with ⟨vs, G, ho, _⟩ | ⟨_, _, _, A, rfl⟩
  rotate_left
  ·rfl
  rcases ho.2 with ⟨rfl, _⟩ | ⟨g, cap, cur, rfl, _⟩ <;> rfl
theorem owns_one {w : World} : ∀ {ts : List T} {vs : List Value} {F : List Nat}, owns w ts vs F → ∀ u ∈ vs, u.oneCell' = true
 | [], _, _, h, u, hu => by simp only [owns] at h; rw [h.1] at hu; cases hu
 | _ :: ts, _, _, h, u, hu => by
  simp only [owns] at h
  obtain ⟨v, us, F1, F2, rfl, h1, h2, _⟩ := h
  rcases List.mem_cons.1 hu with rfl | hu
  ·exact own_one h1
  ·exact owns_one h2 u hu

mutual
theorem own_rep {w : World} : ∀ (t : T) (v : Value) (F : List Nat), own w t v F → rep w t v
 | .i _ _, _, _, h => by simp only [own] at h; simp only [rep]; exact h.1
 | .b _, _, _, h => by simp only [own] at h; simp only [rep]; exact h.1
 | .s _, _, _, h => by simp only [own] at h; simp only [rep]; exact h.1
 | .l e sz n cells, v, _, h => by
  simp only [own] at h
  simp only [rep]
  rcases h with ⟨vs, G, ho, hr, _, _⟩ | ⟨rfl, rfl, _, A, rfl⟩
  rotate_left
  ·exact ⟨by simp, by omega, some A, 0, [], rfl, Nat.le_refl _, by simp only [reps], fun hn => absurd hn (Nat.lt_irrefl _)⟩
  have hl := owns_length hr
  have hx := owns_rep cells vs G hr
  rcases ho.2 with ⟨rfl, rfl⟩ | ⟨g, cap, cur, rfl, _, hh, hc, hm, _⟩
  ·exact ⟨by rw [← hl, ho.1], by omega, none, 0, vs, rfl, Nat.le_refl _, hx, fun hn => absurd hn (by omega)⟩
  ·exact ⟨by rw [← hl, ho.1], by simp only [maxLen] at hm; omega, _, cap, vs, rfl, hc, hx, fun _ => ⟨_, rfl, fun j u hj => ho.cells (g := g) rfl j u hj⟩⟩
theorem owns_rep {w : World} : ∀ (ts : List T) (vs : List Value) (F : List Nat), owns w ts vs F → reps w ts vs
 | [], _, _, h => by simp only [owns] at h; simp only [reps]; exact h.1
 | t :: ts, _, _, h => by
  simp only [owns] at h
  obtain ⟨v, us, F1, F2, rfl, h1, h2, rfl⟩ := h
  simp only [reps]
  exact ⟨v, us, rfl, own_rep t v F1 h1, owns_rep ts us F2 h2⟩
end
theorem own.rep {w : World} {t : T} {v : Value} {F : List Nat} (h : own w t v F) : rep w t v := own_rep t v F h
theorem owns.rep {w : World} {t : List T} {v : List Value} {F : List Nat} (h : owns w t v F) : reps w t v := owns_rep t v F h

theorem own_i (w : World) (k : IntKind) (n : Int) : own w (.i k n) (.int k n) [] := by unfold own; exact ⟨rfl, rfl⟩
theorem own_b (w : World) (x : Bool) : own w (.b x) (.bool x) [] := by unfold own; exact ⟨rfl, rfl⟩
theorem own_s (w : World) (x : ByteArray) : own w (.s x) (.string x) [] := by unfold own; exact ⟨rfl, rfl⟩
theorem strC_own (w : World) (x : ByteArray) : owns w (strC x) [.string x] [] := by simp only [strC, owns]; exact ⟨_, _, [], [], rfl, own_s _ _, ⟨rfl, rfl⟩, rfl⟩
theorem own_nil (w : World) (e sz : Nat) : own w (.l e sz 0 []) (.slice none 0 0) [] := by
 unfold own
 exact .inl ⟨[], [], w.ownsRow_nil 0 e sz, by unfold owns; exact ⟨rfl, rfl⟩, rfl, fun k hk => by cases hk⟩
/-- A slice of no element and no room, wherever it points to. -/
theorem own_none (w : World) (e sz : Nat) (A : Addr) : own w (.l e sz 0 []) (.slice (some A) 0 0) [] := by
 unfold own
 exact .inr ⟨rfl, rfl, rfl, A, rfl⟩

/-- One cell set. -/
theorem owns_setAt {w : World} {t' : T} {v' : Value} {F' : List Nat} (ht : own w t' v' F') : ∀ {ts : List T} {vs : List Value} {F : List Nat} (j : Nat), j < ts.length → owns w ts vs F →
  ∃ F2, owns w (ts.set j t') (vs.set j v') F2 ∧ (∀ k ∈ F2, k ∈ F ∨ k ∈ F') ∧ (F.Nodup → F'.Nodup → (∀ k ∈ F', k ∉ F) → F2.Nodup)
 | [], _, _, _, hj, _ => by simp at hj
 | t :: ts, _, _, 0, _, h => by
  simp only [owns] at h
  obtain ⟨v, us, F1, F2, rfl, h1, h2, rfl⟩ := h
  refine ⟨F' ++ F2, ?_, fun k hk => ?_, fun hF hF' hd => ?_⟩
  ·simp only [List.set_cons_zero, owns]
   exact ⟨v', us, F', F2, rfl, ht, h2, rfl⟩
  ·rcases List.mem_append.1 hk with hk | hk
   ·exact .inr hk
   ·exact .inl (List.mem_append_right _ hk)
  ·exact List.nodup_append.2 ⟨hF', (List.nodup_append.1 hF).2.1, fun a ha b hb e => hd a ha (e ▸ List.mem_append_right _ hb)⟩
 | t :: ts, _, _, j + 1, hj, h => by
  simp only [owns] at h
  obtain ⟨v, us, F1, F2, rfl, h1, h2, rfl⟩ := h
  obtain ⟨F3, k1, k2, k3⟩ := owns_setAt ht j (by simpa using hj) h2
  refine ⟨F1 ++ F3, ?_, fun k hk => ?_, fun hF hF' hd => ?_⟩
  ·simp only [List.set_cons_succ, owns]
   exact ⟨v, us.set j v', F1, F3, rfl, h1, k1, rfl⟩
  ·rcases List.mem_append.1 hk with hk | hk
   ·exact .inl (List.mem_append_left _ hk)
   ·rcases k2 k hk with hk | hk
    ·exact .inl (List.mem_append_right _ hk)
    ·exact .inr hk
  ·obtain ⟨n1, n2, n3⟩ := List.nodup_append.1 hF
   refine List.nodup_append.2 ⟨n1, k3 n2 hF' (fun k hk hk' => hd k hk (List.mem_append_right _ hk')), fun a ha b hb e => ?_⟩
   rcases k2 b hb with hb | hb
   ·exact n3 a ha b hb e
   ·exact hd b hb (e ▸ List.mem_append_left _ ha)

/-- The row of a slice that is not empty. -/
theorem own_form {w : World} {e sz n : Nat} {cells : List T} {v : Value} {F : List Nat} (h : own w (.l e sz n cells) v F) (hn : 0 < n) :
    ∃ g c, v = .slice (some ⟨g, 0, none⟩) n c ∧ g ∈ F ∧ n ≤ c := by
  simp only [own] at h
  rcases h with ⟨vs, G, ho, hr, rfl, _⟩ | ⟨rfl, _⟩
  rotate_left
  · exact absurd hn (Nat.lt_irrefl _)
  obtain ⟨g, c, rfl, hc⟩ := ho.form hn
  exact ⟨g, c, rfl, by simp [Value.ownBlock], by rcases ho.2 with ⟨h, _⟩ | ⟨g', cap', cur, he, _, _, h1, _⟩; · cases h
                                                 · cases he; exact h1⟩
theorem own_slice {w : World} {e sz n : Nat} {cells : List T} {v : Value} {F : List Nat} (h : own w (.l e sz n cells) v F) : ∃ A c, v = .slice A n c ∧ n ≤ c ∧ n ≤ 9223372036854775807 := by
 have h := h.rep
 simp only [rep] at h
 obtain ⟨_, h1, A, c, vs, rfl, hc, _⟩ := h
 exact ⟨A, c, rfl, hc, h1⟩

/-- A store into one cell of an own row. -/
theorem own_store {w : World} {e sz n c g j : Nat} {cells : List T} {F F' : List Nat} {t' : T} {u : Value} (h : own w (.l e sz n cells) (.slice (some ⟨g, 0, none⟩) n c) F) (hj : j < cells.length) (ht : own w t' u F') (hg : g ∉ F') :
  ∃ F2, own (w.setCell ⟨g, j, none⟩ u) (.l e sz n (cells.set j t')) (.slice (some ⟨g, 0, none⟩) n c) F2 ∧ (∀ k ∈ F2, k ∈ F ∨ k ∈ F') ∧ (F.Nodup → F'.Nodup → (∀ k ∈ F', k ∉ F) → F2.Nodup) := by
 simp only [own] at h
 rcases h with ⟨vs, G, ho, hr, rfl, hng⟩ | ⟨_, rfl, _⟩
 rotate_left
 ·simp at hj
 have hgG : g ∉ G := hng g rfl
 have hl := owns_length hr
 obtain ⟨F3, k1, k2, k3⟩ := owns_setAt ht j hj hr
 have hgF3 : g ∉ F3 := fun hk => (k2 g hk).elim hgG hg
 refine ⟨g :: F3, ?_, fun k hk => ?_, fun hF hF' hd => ?_⟩
 ·simp only [own]
  refine .inl ⟨vs.set j u, F3, ?_, k1.set (p := ⟨g, j, none⟩) hgF3 u, rfl, fun k hk => ?_⟩
  ·exact (ho.stored j u).1
  ·have : g = k := by simpa [Value.ownBlock] using hk
   exact this ▸ hgF3
 ·rcases List.mem_cons.1 hk with rfl | hk
  ·exact .inl (by simp [Value.ownBlock])
  ·rcases k2 k hk with hk | hk
   ·exact .inl (List.mem_append_right _ hk)
   ·exact .inr hk
 ·have hF0 : G.Nodup := (List.nodup_append.1 hF).2.1
  exact List.nodup_cons.2 ⟨hgF3, k3 hF0 hF' (fun k hk hk' => hd k hk (List.mem_append_right _ hk'))⟩
/-- What an own row's cells hold. -/
theorem own_cell {w : World} {e sz n c g : Nat} {cells : List T} {F : List Nat} (h : own w (.l e sz n cells) (.slice (some ⟨g, 0, none⟩) n c) F) (h0 : 0 < cells.length) : ∃ vs G, owns w cells vs G ∧ F = g :: G ∧ g ∉ G ∧ (∀ j u, vs[j]? = some u → w.cell? ⟨g, j, none⟩ = some u) ∧ (∀ j, w.frozen? ⟨g, j, none⟩ = false) := by
 simp only [own] at h
 rcases h with ⟨vs, G, ho, hr, rfl, hng⟩ | ⟨_, rfl, _⟩
 rotate_left
 ·simp at h0
 exact ⟨vs, G, hr, rfl, hng g rfl, fun j u hj => by have := ho.cells (g := g) rfl j u hj; rwa [add_zero'] at this, fun j => ho.frozenAt j⟩

/-! ### make -/
theorem made_flat (z : Array Value) (hz : 0 < z.size) : ∀ n, (madeCells z (n * z.size)).toList = (List.replicate n z.toList).flatten := by
 intro n
 apply List.ext_getElem?
 intro j
 have hlen : ((List.replicate n z.toList).flatten).length = n * z.size := by simp
 by_cases hj : j < n * z.size
 ·have e1 : (madeCells z (n * z.size)).toList[j]? = some (z[j % z.size]!) := by simp [madeCells, hj]
  rw [e1]
  have hm : j % z.size < z.size := Nat.mod_lt _ hz
  have key : ∀ (m i : Nat), i < m * z.size → ((List.replicate m z.toList).flatten)[i]? = z.toList[i % z.size]? := by
   intro m
   induction m with
   | zero => intro i hi; simp at hi
   | succ m ih =>
    intro i hi
    rw [List.replicate_succ, List.flatten_cons]
    by_cases hi' : i < z.size
    ·rw [List.getElem?_append_left (by simpa using hi'), Nat.mod_eq_of_lt hi']
    ·rw [List.getElem?_append_right (by simp; omega), ih _ (by simp only [Array.length_toList]; rw [Nat.add_mul] at hi; omega)]
     congr 1
     simp only [Array.length_toList]
     rw [← Nat.mod_eq_sub_mod (by omega)]
  rw [key n j hj]
  simp [hm]
 ·rw [List.getElem?_eq_none (by simp [madeCells]; omega), List.getElem?_eq_none (by rw [hlen]; omega)]
theorem owns_flat {w : World} {ts : List T} {vs : List Value} (h : owns w ts vs []) : ∀ n, owns w ((List.replicate n ts).flatten) ((List.replicate n vs).flatten) []
 | 0 => by simp [owns]
 | n + 1 => by simpa [List.replicate_succ] using owns_append h (owns_flat h n)

theorem World.ownsRow_grown (w : World) (base : Nat) (e : TypeId) (size : Nat) (z : Value) (m : Nat) (us : List Value) (hzs : z.cells.size = size) (hsz : 0 < size) (hl : us.length = m * size) (h63 : m ≤ maxLen) (hbase : base ≤ w.heap.size) :
  (w.drew.alloc (.cells (us.toArray ++ Builtin.zeroCells z.cells (grownCap w m 0 e - m)) e)).ownsRow base e size (.slice (some ⟨w.heap.size, 0, none⟩) m (grownCap w m 0 e)) m us := by
 have hge := grownCap_ge w m 0 e
 have hcm : grownCap w m 0 e ≤ maxLen := grownCap_le_maxLen w m 0 e h63
 refine ⟨hl, .inr ⟨w.heap.size, _, _, rfl, hbase, heap_alloc_new w.drew _, hge, hcm, ?_, ?_⟩⟩
 ·simp only [Array.size_append, List.size_toArray, size_zeroCells, hzs, hl, ← Nat.add_mul]
  congr 1
  omega
 ·simp only [Array.toList_append]
  rw [← hl]
  exact List.take_left
theorem grow_fits (m b : Nat) (h : m * b ≤ 140737488355328) : Builtin.nextslicecap m 0 * b ≤ 281474976710656 := by
 rcases Nat.eq_zero_or_pos m with h0 | h0
 ·subst h0; simp [Builtin.nextslicecap]
 ·simp [Builtin.nextslicecap, h0]; omega
section
variable {P : Program} {w : World} {ops : Array Oper} {rest : List Oper} {o : Oper} {a : Act} {Q : Exit → Act → World → Prop}

/-- make([]T, n) -/
theorem mk (hg : o.guard = none) {l c : Operand} {t : TypeId} (hop : o.op = Op.makeSlice t l c) {e sz by_ : Nat} {z : Value} (ht : P.underlying t = some (.slice e))
  (hi : (P.info? e).map (fun i => (i.zero, i.size, i.bytes)) = some (some z, sz, by_)) (hzs : z.cells.size = sz) (hsz : 0 < sz) {kl kc : IntKind} {L C : Int} (n : Nat) (hl : a.eval l = .int kl L) (hc : a.eval c = .int kc C) (hL : L = (n : Int)) (hC : C = (n : Int))
  (hby : by_ * n ≤ 281474976710656) (hm : n ≤ maxLen) {zt : List T} (hz : ∀ W : World, owns W zt z.cells.toList [])
  (hK : ∀ w', own w' (.l e sz n (List.replicate n zt).flatten) (.slice (some ⟨w.heap.size, 0, none⟩) n n) [w.heap.size] → Below w.heap.size w w' → w'.heap.size = w.heap.size + 1 → wpList P ops Q rest (a.put o.dst (.slice (some ⟨w.heap.size, 0, none⟩) n n)) w') :
  wpList P ops Q (o :: rest) a w := by
 obtain ⟨i, h2, h3, h4, h5⟩ := info_parts hi
 subst h4
 subst h5
 refine wpList_plain hg fun K hK' => ?_
 subst hL
 subst hC
 have h63' : (n : Int) ≤ 9223372036854775807 := by
  have h := hm
  simp [maxLen] at h
  omega
 have hb' : (i.bytes : Int) * (n : Int) ≤ 281474976710656 := by
  have h : ((i.bytes * n : Nat) : Int) ≤ 281474976710656 := by omega
  rwa [Int.natCast_mul] at h
 have hr := run_make (P := P) w t e i z ht h2 h3 kl kc n n (by omega) (Int.le_refl _) hb' h63'
 simp only [Int.toNat_natCast] at hr
 unfold Oper.wp
 simp [execOp, hop, hl, hc, hr, Result.andThen]
 refine hK' _ _ (hK _ ?_ ((Below.refl _ _).alloc (Nat.le_refl _) _) (by simp))
 simp only [own]
 refine .inl ⟨(madeCells z.cells (n * i.size)).toList, [], World.ownsRow_lit w _ n (Nat.zero_le _) hm (size_madeCells _ _), ?_, by simp [Value.ownBlock], fun k _ hk => by cases hk⟩
 rw [← hzs, made_flat z.cells (by omega) n]
 exact owns_flat (hz _) n

/-- append: whatever was there before, and the new cells, each in its own blocks. -/
theorem run_app (t ty : TypeId) {e sz by_ : Nat} {z : Value} (ht : P.underlying t = some (.slice e))
  (hi : (P.info? e).map (fun i => (i.zero, i.size, i.bytes)) = some (some z, sz, by_)) (hzs : z.cells.size = sz) (hsz : 0 < sz) {v : Value} {n : Nat} {cells : List T} {F : List Nat} (hown : own w (.l e sz n cells) v F)
  {A : Option Addr} {m c : Nat} {ts : List T} {us : List Value} {F' : List Nat} (hx0 : A = none → c = 0) (hcell : 0 < m → ∃ ad, A = some ad ∧ ∀ j u, us[j]? = some u → w.cell? (ad.add j) = some u) (hl : us.length = m * sz) (hu : owns w ts us F')
  (hd : ∀ k, v.ownBlock = some k → k ∈ F → k ∉ F') (h63 : n + m ≤ maxLen) (hbytes : (n + m) * by_ ≤ 140737488355328) :
  ∃ v' w' F2, (Builtin.append_ #[t, t] ty #[v, .slice A m c]).run P w = .ok v' w' ∧ own w' (.l e sz (n + m) (cells ++ ts)) v' F2 ∧ (∀ k ∈ F2, k ∈ F ∨ k ∈ F' ∨ k = w.heap.size) ∧ (F.Nodup → F'.Nodup → (∀ k ∈ F', k ∉ F) → F2.Nodup) ∧ w.grownBy w' v.ownBlock ∧ ∃ row, w.grownBy w' row ∧ ∀ k, row = some k → k ∈ F := by
 obtain ⟨i, h2, h3, h4, h5⟩ := info_parts hi
 subst h4
 subst h5
 have hF' := hu.lt
 have hF := hown.lt
 simp only [own] at hown
 rcases hown with ⟨vs, G, ho, hr, rfl, hng⟩ | ⟨rfl, rfl, rfl, A0, rfl⟩
 rotate_left
 ·obtain ⟨e', hk⟩ : ∃ e', P.underlying t = some (.slice e') := ⟨_, ht⟩
  rcases Nat.eq_zero_or_pos m with hm | hm
  ·subst hm
   have hu0 : us = [] := List.eq_nil_of_length_eq_zero (by simpa using hl)
   subst hu0
   have hts : ts = [] := List.eq_nil_of_length_eq_zero (by rw [← owns_length hu]; rfl)
   subst hts
   have hs : Src P i.size t (.slice A 0 c) 0 [] w := by
    cases A with
    | none => exact Src.ofNil w hk c
    | some ad => exact Src.ofSlice w hk ad 0 c [] (by simp) (fun j u hj => by simp at hj) (fun u hu => by cases hu)
   have hr := run_append_nothing (P := P) w t t ty e i ht h2 (some A0) 0 0 (Nat.le_refl _) _ hs
   exact ⟨_, w, [], hr, own_none w e i.size A0, fun k hk => (by cases hk), fun _ _ _ => List.nodup_nil, World.grownBy.refl _ _, none, World.grownBy.refl _ _, fun k hk => by cases hk⟩
  ·obtain ⟨ad, rfl, hnews⟩ := hcell hm
   have hs : Src P i.size t (.slice (some ad) m c) m us w := Src.ofSlice w hk ad m c us hl hnews (owns_one hu)
   have hr := run_append_grow_src (P := P) w t t ty e i z ht h2 h3 (some A0) 0 0 [] (by simp [Builtin.firstCells, loadCells, loadCellsFrom]) _ m us hs (by omega) (by simp only [maxLen] at h63; omega) (by
    have h := grow_fits m i.bytes (by simpa using hbytes)
    simpa using h)
   have hw := World.ownsRow_grown w 0 e i.size z m us hzs hsz hl (by simpa using h63) (Nat.zero_le _)
   simp only [Nat.zero_add, List.nil_append] at hr hw ⊢
   have hg : w.grownBy (w.drew.alloc (.cells (us.toArray ++ Builtin.zeroCells z.cells (grownCap w m 0 e - m)) e)) none := ⟨rfl, rfl, rfl, by simp, fun k hk _ => heap_alloc_old w.drew _ hk⟩
   refine ⟨_, _, w.heap.size :: F', hr, ?_, fun k hk => ?_, fun _ hF2 _ => ?_, ⟨hg.os, hg.tape, hg.output, hg.size, fun k hk _ => hg.block k hk (by simp)⟩, none, hg, fun k hk => by cases hk⟩
   ·simp only [own]
    refine .inl ⟨us, F', hw, hu.grown hg (fun k hk => by cases hk), rfl, fun k hk hk' => ?_⟩
    have : w.heap.size = k := by simpa [Value.ownBlock] using hk
    exact absurd (hF' k hk') (by omega)
   ·rcases List.mem_cons.1 hk with rfl | hk
    ·exact .inr (.inr rfl)
    ·exact .inr (.inl hk)
   ·exact List.nodup_cons.2 ⟨fun hk => absurd (hF' _ hk) (Nat.lt_irrefl _), hF2⟩
 have fin : ∀ v' w', w'.ownsRow 0 e i.size v' (n + m) (vs ++ us) → w.grownBy w' v.ownBlock → (v'.ownBlock = v.ownBlock ∨ v'.ownBlock = some w.heap.size) →
   ∃ F2, own w' (.l e i.size (n + m) (cells ++ ts)) v' F2 ∧ (∀ k ∈ F2, k ∈ v.ownBlock.toList ++ G ∨ k ∈ F' ∨ k = w.heap.size) ∧ ((v.ownBlock.toList ++ G).Nodup → F'.Nodup → (∀ k ∈ F', k ∉ v.ownBlock.toList ++ G) → F2.Nodup) := by
  intro v' w' h1 h2 h3
  have r1 := hr.grown h2 (fun k hk => hng k hk)
  have r2 := hu.grown h2 (fun k hk => hd k hk (by simp [hk]))
  have hmem : ∀ k, v'.ownBlock = some k → k ∉ G ++ F' := by
   intro k hk hk'
   rcases h3 with e1 | e1
   ·rw [e1] at hk
    rcases List.mem_append.1 hk' with h | h
    ·exact hng k hk h
    ·exact hd k hk (by simp [hk]) h
   ·rw [e1] at hk
    obtain rfl := Option.some.inj hk
    rcases List.mem_append.1 hk' with h | h
    ·exact absurd (hF _ (List.mem_append_right _ h)) (Nat.lt_irrefl _)
    ·exact absurd (hF' _ h) (Nat.lt_irrefl _)
  refine ⟨v'.ownBlock.toList ++ (G ++ F'), ?_, fun k hk => ?_, fun q1 q2 q3 => ?_⟩
  ·simp only [own]
   exact .inl ⟨vs ++ us, G ++ F', h1, owns_append r1 r2, rfl, hmem⟩
  ·rcases List.mem_append.1 hk with hk | hk
   ·rcases h3 with e1 | e1
    ·rw [e1] at hk; exact .inl (List.mem_append_left _ hk)
    ·rw [e1] at hk; exact .inr (.inr (by simpa using hk))
   ·rcases List.mem_append.1 hk with hk | hk
    ·exact .inl (List.mem_append_right _ hk)
    ·exact .inr (.inl hk)
  ·have hGF : (G ++ F').Nodup := List.nodup_append.2 ⟨(List.nodup_append.1 q1).2.1, q2, fun a ha b hb e => q3 b hb (e ▸ List.mem_append_right _ ha)⟩
   refine List.nodup_append.2 ⟨by cases v'.ownBlock <;> simp, hGF, fun a ha b hb e => ?_⟩
   have : v'.ownBlock = some a := by cases hv : v'.ownBlock <;> simp_all
   exact hmem a this (e ▸ hb)
 cases A with
 | none =>
  have hm0 : m = 0 := by
   rcases Nat.eq_zero_or_pos m with h | h
   ·exact h
   ·obtain ⟨ad, h, _⟩ := hcell h
    cases h
  subst hm0
  obtain rfl := hx0 rfl
  have hu0 : us = [] := List.eq_nil_of_length_eq_zero (by simpa using hl)
  subst hu0
  have hr := run_append_owned_none (P := P) w 0 t ty e i i.size ht h2 v n vs ho
  obtain ⟨F2, k1, k2, k3⟩ := fin v w (by simpa using ho) (World.grownBy.refl _ _) (.inl rfl)
  exact ⟨v, w, F2, hr, k1, k2, k3, World.grownBy.refl _ _, none, World.grownBy.refl _ _, fun k hk => by cases hk⟩
 | some ad =>
  have hnews : ∀ j u, us[j]? = some u → w.cell? (ad.add j) = some u := by
   intro j u hj
   rcases Nat.eq_zero_or_pos m with h | h
   ·subst h
    have : us = [] := List.eq_nil_of_length_eq_zero (by simpa using hl)
    subst this
    simp at hj
   ·obtain ⟨ad', h, hh⟩ := hcell h
    cases h
    exact hh j u hj
  obtain ⟨v', w', hr, k1, k2, _, k4⟩ := run_append_own_at (P := P) w 0 t ty e i z i.size i.bytes ht h2 h3 rfl rfl hzs hsz v n vs ho ad m c us hl hnews (owns_one hu) h63 hbytes (Nat.zero_le _)
  obtain ⟨F2, r1, r2, r3⟩ := fin v' w' k1 k2 k4
  exact ⟨v', w', F2, hr, r1, r2, r3, k2, v.ownBlock, k2, fun k hk => by simp [hk]⟩

theorem app (hgd : o.guard = none) {s x : Operand} {t : TypeId} (ho : o.op = .call { callee := .builtin .append, args := #[s, x], argTypes := #[t, t] }) {e sz by_ : Nat} {z : Value} (ht : P.underlying t = some (.slice e))
  (hi : (P.info? e).map (fun i => (i.zero, i.size, i.bytes)) = some (some z, sz, by_)) (hzs : z.cells.size = sz) (hsz : 0 < sz) {v : Value} (hs : a.eval s = v) {n : Nat} {cells : List T} {F : List Nat} (hown : own w (.l e sz n cells) v F)
  {A : Option Addr} {m c : Nat} (hx : a.eval x = .slice A m c) {ts : List T} {us : List Value} {F' : List Nat} (hx0 : A = none → c = 0) (hcell : 0 < m → ∃ ad, A = some ad ∧ ∀ j u, us[j]? = some u → w.cell? (ad.add j) = some u) (hl : us.length = m * sz) (hu : owns w ts us F')
  (hd : ∀ k, v.ownBlock = some k → k ∉ F') (h63 : n + m ≤ maxLen) (hbytes : (n + m) * by_ ≤ 140737488355328)
  (h : ∀ v' w' F2, own w' (.l e sz (n + m) (cells ++ ts)) v' F2 → (∀ k ∈ F2, k ∈ F ∨ k ∈ F' ∨ k = w.heap.size) → (F.Nodup → F'.Nodup → (∀ k ∈ F', k ∉ F) → F2.Nodup) → w.grownBy w' v.ownBlock → wpList P ops Q rest (a.put o.dst v') w') :
  wpList P ops Q (o :: rest) a w := by
 refine wpList_plain hgd fun K hK => ?_
 obtain ⟨v', w', F2, hr, h2, h3, h4, h5, _⟩ := run_app (P := P) (w := w) t o.type ht hi hzs hsz hown hx0 hcell hl hu (fun k h _ => hd k h) h63 hbytes
 unfold Oper.wp execOp
 simp only [ho, resolve, invoke, builtin, Sem.run_bind, Sem.run_pure, Result.andThen_ok, List.map_toArray, List.map_cons, List.map_nil, hs, hx, hr]
 exact hK _ _ (h v' w' F2 h2 h3 h4 h5)

/-- append of one element, which lies in a block of its own. -/
theorem app1 (hgd : o.guard = none) {s x : Operand} {t : TypeId} (ho : o.op = .call { callee := .builtin .append, args := #[s, x], argTypes := #[t, t] }) {e sz by_ : Nat} {z : Value} (ht : P.underlying t = some (.slice e))
  (hi : (P.info? e).map (fun i => (i.zero, i.size, i.bytes)) = some (some z, sz, by_)) (hzs : z.cells.size = sz) (hsz : 0 < sz) {v : Value} (hs : a.eval s = v) {n : Nat} {cells : List T} {F : List Nat} (hown : own w (.l e sz n cells) v F)
  {B c : Nat} (hx : a.eval x = .slice (some ⟨B, 0, none⟩) 1 c) {ts : List T} {us : List Value} {F' : List Nat} {ty : TypeId} {fr : Nat × Nat} (hcell : w.heap[B]? = some (.cells us.toArray ty fr)) (hu : owns w ts us F') (hl : ts.length = sz)
  (hd : ∀ k, v.ownBlock = some k → k ∉ F') (h63 : n + 1 ≤ maxLen) (hbytes : (n + 1) * by_ ≤ 140737488355328)
  (h : ∀ v' w' F2, own w' (.l e sz (n + 1) (cells ++ ts)) v' F2 → (∀ k ∈ F2, k ∈ F ∨ k ∈ F' ∨ k = w.heap.size) → (F.Nodup → F'.Nodup → (∀ k ∈ F', k ∉ F) → F2.Nodup) → w.grownBy w' v.ownBlock → wpList P ops Q rest (a.put o.dst v') w') :
  wpList P ops Q (o :: rest) a w :=
 app hgd ho ht hi hzs hsz hs hown hx (fun h => by cases h) (fun _ => ⟨_, rfl, fun j u hj => World.news_of_block hcell j u (by simpa using hj)⟩) (by rw [owns_length hu, hl, Nat.one_mul]) hu hd h63 hbytes h
end

/-! ### what a call has made -/
/-- v reads as t, in blocks that are new since w, no block twice. -/
def Made (w w' : World) (t : T) (v : Value) : Prop := ∃ F, own w' t v F ∧ F.Nodup ∧ ∀ k ∈ F, w.heap.size ≤ k
def Mades (w w' : World) (ts : List T) (vs : List Value) : Prop := ∃ F, owns w' ts vs F ∧ F.Nodup ∧ ∀ k ∈ F, w.heap.size ≤ k

def MadeV (w : World) (t : T) (e : Ending) (w' : World) : Prop := ∃ v, e = .returned v ∧ Made w w' t v ∧ Below w.heap.size w w'
def MadeA (w : World) (ts : List T) (e : Ending) (w' : World) : Prop := ∃ vs : List Value, e = .returned (.agg vs.toArray) ∧ Mades w w' ts vs ∧ Below w.heap.size w w'

theorem mem2 {F G : List Nat} {p : Nat → Prop} (h1 : ∀ k ∈ F, p k) (h2 : ∀ k ∈ G, p k) : ∀ k ∈ F ++ G, p k := fun k hk => (List.mem_append.1 hk).elim (h1 k) (h2 k)
theorem nod2 {F G : List Nat} (h1 : F.Nodup) (h2 : G.Nodup) (h : ∀ k ∈ F, k ∉ G) : (F ++ G).Nodup := List.nodup_append.2 ⟨h1, h2, fun a ha b hb e => h a ha (e ▸ hb)⟩
/-! ### several cells stored -/
def setN : List T → Nat → List T → List T
 | l, _, [] => l
 | l, j, t :: ts => setN (l.set j t) (j + 1) ts
def setCells : World → Nat → Nat → List Value → World
 | w, _, _, [] => w
 | w, g, j, u :: us => setCells (w.setCell ⟨g, j, none⟩ u) g (j + 1) us
theorem setN_length : ∀ (ts l : List T) (j : Nat), (setN l j ts).length = l.length
 | [], _, _ => rfl
 | t :: ts, l, j => by rw [setN, setN_length ts]; simp
theorem own_stores {e sz n c g : Nat} : ∀ {ts : List T} {us : List Value} {w : World} {cells : List T} {j : Nat} {F F' : List Nat}, own w (.l e sz n cells) (.slice (some ⟨g, 0, none⟩) n c) F → j + ts.length ≤ cells.length → owns w ts us F' → g ∉ F' →
  ∃ F2, own (setCells w g j us) (.l e sz n (setN cells j ts)) (.slice (some ⟨g, 0, none⟩) n c) F2 ∧ (∀ k ∈ F2, k ∈ F ∨ k ∈ F') ∧ (F.Nodup → F'.Nodup → (∀ k ∈ F', k ∉ F) → F2.Nodup)
 | [], us, w, cells, j, F, F', h, hj, ht, hg => by
  simp only [owns] at ht
  obtain ⟨rfl, rfl⟩ := ht
  exact ⟨F, h, fun k hk => .inl hk, fun h _ _ => h⟩
 | t :: ts, us, w, cells, j, F, F', h, hj, ht, hg => by
  simp only [owns] at ht
  obtain ⟨u, us, F1, F2, rfl, h1, h2, rfl⟩ := ht
  simp only [List.length_cons] at hj
  have hg1 : g ∉ F1 := fun h => hg (List.mem_append_left _ h)
  have hg2 : g ∉ F2 := fun h => hg (List.mem_append_right _ h)
  obtain ⟨G1, k1, k2, k3⟩ := own_store (j := j) h (by omega) h1 hg1
  obtain ⟨G2, r1, r2, r3⟩ := own_stores (j := j + 1) k1 (by simp; omega) (h2.set (p := ⟨g, j, none⟩) hg2 u) hg2
  refine ⟨G2, r1, fun k hk => ?_, fun q1 q2 q3 => ?_⟩
  ·rcases r2 k hk with hk | hk
   ·rcases k2 k hk with hk | hk
    ·exact .inl hk
    ·exact .inr (List.mem_append_left _ hk)
   ·exact .inr (List.mem_append_right _ hk)
  ·obtain ⟨n1, n2, n3⟩ := List.nodup_append.1 q2
   refine r3 (k3 q1 n1 (fun k hk => q3 k (List.mem_append_left _ hk))) n2 (fun k hk hk' => ?_)
   rcases k2 k hk' with hk' | hk'
   ·exact q3 k (List.mem_append_right _ hk) hk'
   ·exact n3 k hk' k hk rfl
theorem setN_append : ∀ (ts A z B : List T), z.length = ts.length → setN (A ++ (z ++ B)) A.length ts = A ++ (ts ++ B)
 | [], A, z, B, h => by
  have : z = [] := List.eq_nil_of_length_eq_zero (by simpa using h)
  subst this; rfl
 | t :: ts, A, [], B, h => by simp at h
 | t :: ts, A, y :: z, B, h => by
  rw [setN]
  have e1 : (A ++ (y :: z ++ B)).set A.length t = (A ++ [t]) ++ (z ++ B) := by simp
  rw [e1, show A.length + 1 = (A ++ [t]).length by simp, setN_append ts (A ++ [t]) z B (by simpa using h)]
  simp
/-- the cells of an array that is filled from the front -/
def toTo {α : Type} (enc : α → List T) (zt : List T) (xs : List α) (k : Nat) : List T := (xs.take k).flatMap enc ++ (List.replicate (xs.length - k) zt).flatten
theorem toTo_zero {α : Type} (enc : α → List T) (zt : List T) (xs : List α) : toTo enc zt xs 0 = (List.replicate xs.length zt).flatten := by simp [toTo]
theorem toTo_end {α : Type} (enc : α → List T) (zt : List T) (xs : List α) : toTo enc zt xs xs.length = xs.flatMap enc := by simp [toTo]
theorem toTo_length {α : Type} {enc : α → List T} {zt : List T} {sz : Nat} (hf : ∀ x, (enc x).length = sz) (hz : zt.length = sz) (xs : List α) {k : Nat} (hk : k ≤ xs.length) : (toTo enc zt xs k).length = xs.length * sz := by
 unfold toTo
 rw [List.length_append, length_flatMap enc sz hf]
 simp [hz]
 rw [Nat.min_eq_left hk, ← Nat.add_mul]
 congr 1; omega
theorem toTo_succ {α : Type} {enc : α → List T} {zt : List T} {sz : Nat} (hf : ∀ x, (enc x).length = sz) (hz : zt.length = sz) (xs : List α) {k : Nat} (hk : k < xs.length) : setN (toTo enc zt xs k) (k * sz) (enc xs[k]) = toTo enc zt xs (k + 1) := by
 unfold toTo
 have e1 : (List.replicate (xs.length - k) zt).flatten = zt ++ (List.replicate (xs.length - (k + 1)) zt).flatten := by
  rw [show xs.length - k = (xs.length - (k + 1)) + 1 by omega, List.replicate_succ, List.flatten_cons]
 have hl : ((xs.take k).flatMap enc).length = k * sz := by rw [length_flatMap enc sz hf]; simp; rw [Nat.min_eq_left (by omega)]
 rw [e1, ← hl, setN_append _ _ _ _ (by rw [hz, hf]), List.take_succ_eq_append_getElem hk, List.flatMap_append]
 simp
/-- every cell of an own row can be read, and written -/
theorem own_at {w : World} {e sz n c g : Nat} {cells : List T} {F : List Nat} (h : own w (.l e sz n cells) (.slice (some ⟨g, 0, none⟩) n c) F) {j : Nat} (hj : j < cells.length) : ∃ u, w.cell? ⟨g, j, none⟩ = some u ∧ w.frozen? ⟨g, j, none⟩ = false := by
 obtain ⟨vs, G, ho, _, _, hc, hf⟩ := own_cell h (by omega)
 have := owns_length ho
 exact ⟨vs[j], hc j _ (List.getElem?_eq_getElem (by omega)), hf j⟩

end Go.Proofs.YtkpkfihaihoaeaaGreatDoor.M
end
section
set_option linter.unusedVariables false
set_option linter.unusedSimpArgs false
namespace Go.Proofs.YtkpkfihaihoaeaaGreatDoor.M
open Go.RowKit
structure Case where
 Text : ByteArray
 Goto : Int
 deriving DecidableEq
def zCase : Case := ⟨⟨#[]⟩, 0⟩
def Case.c (x : Case) : List T := [.s x.Text, .i .i64 x.Goto]
def CasesT (tCase : Nat) (xs : List Case) : T := tl tCase 2 Case.c xs
theorem Case.ropen {w : World} {x : Case} {vs : List Value} (h : reps w (Case.c x) vs) : vs = [.string x.Text, .int .i64 x.Goto] := by
 simp only [Case.c, reps, rep] at h
 obtain ⟨v0, _, rfl, h0, ⟨v1, _, rfl, h1, rfl⟩⟩ := h
 subst h0 h1
 exact rfl
theorem Case.rmk {w : World} (x : Case) : reps w (Case.c x) [.string x.Text, .int .i64 x.Goto] := by
 simp only [Case.c, reps]
 exact ⟨_, _, rfl, by simp only [rep], ⟨_, _, rfl, by simp only [rep], rfl⟩⟩
theorem Case.oopen {w : World} {x : Case} {vs : List Value} {F : List Nat} (h : owns w (Case.c x) vs F) : vs = [.string x.Text, .int .i64 x.Goto] ∧ F = [] := by
 simp only [Case.c, owns] at h
 obtain ⟨v0, _, F0, _, rfl, h0, ⟨v1, _, F1, _, rfl, h1, ⟨rfl, rfl⟩, rfl⟩, rfl⟩ := h
 simp only [own] at h0 h1
 obtain ⟨rfl, rfl⟩ := h0
 obtain ⟨rfl, rfl⟩ := h1
 exact ⟨rfl, by simp⟩
theorem Case.omk {w : World} (x : Case) : owns w (Case.c x) [.string x.Text, .int .i64 x.Goto] ([]) := by
 simp only [Case.c, owns]
 exact ⟨_, _, [], _, rfl, own_s _ _, ⟨_, _, [], _, rfl, own_i _ _ _, ⟨rfl, rfl⟩, rfl⟩, rfl⟩
theorem Case.elem {tCase : Nat} {w : World} {xs : List Case} {v : Value} (h : rep w (CasesT tCase xs) v) {i : Nat} (hi : i < xs.length) : ∃ a c, v = .slice (some a) xs.length c ∧ w.cell? (a.add (i * 2)) = some (.string xs[i].Text) ∧ w.cell? ⟨(a.add (i * 2)).block, (a.add (i * 2)).off + 1, none⟩ = some (.int .i64 xs[i].Goto) ∧ reps w (Case.c xs[i]) [.string xs[i].Text, .int .i64 xs[i].Goto] := by
 obtain ⟨a, c, us, rfl, _, _, hr, hc⟩ := rep_elem h (fun _ => rfl) hi
 have hr0 := hr
 obtain rfl := Case.ropen hr
 exact ⟨a, c, rfl, hc 0 _ rfl, by rw [← add_fld _ _ 1 (by omega)]; exact hc 1 _ rfl, hr0⟩
structure Step where
 Asks : List ByteArray
 On : Int
 Cases : List Case
 Else : Int
 Fall : Int
 End : Bool
 Bad : Bool
 Give : ByteArray
 deriving DecidableEq
def zStep : Step := ⟨[], 0, [], 0, 0, false, false, ⟨#[]⟩⟩
def Step.c (tCase : Nat) (x : Step) : List T := [strsT 9 x.Asks, .i .i64 x.On, CasesT tCase x.Cases, .i .i64 x.Else, .i .i64 x.Fall, .b x.End, .b x.Bad, .s x.Give]
def StepsT (tStep tCase : Nat) (xs : List Step) : T := tl tStep 8 (Step.c tCase) xs
theorem Step.ropen {tCase : Nat} {w : World} {x : Step} {vs : List Value} (h : reps w (Step.c tCase x) vs) : ∃ v0 v2, vs = [v0, .int .i64 x.On, v2, .int .i64 x.Else, .int .i64 x.Fall, .bool x.End, .bool x.Bad, .string x.Give] ∧ rep w (strsT 9 x.Asks) v0 ∧ rep w (CasesT tCase x.Cases) v2 := by
 simp only [Step.c, reps] at h
 obtain ⟨v0, _, rfl, h0, ⟨v1, _, rfl, h1, ⟨v2, _, rfl, h2, ⟨v3, _, rfl, h3, ⟨v4, _, rfl, h4, ⟨v5, _, rfl, h5, ⟨v6, _, rfl, h6, ⟨v7, _, rfl, h7, rfl⟩⟩⟩⟩⟩⟩⟩⟩ := h
 simp only [rep] at h1 h3 h4 h5 h6 h7
 subst h1 h3 h4 h5 h6 h7
 exact ⟨v0, v2, rfl, h0, h2⟩
theorem Step.rmk {tCase : Nat} {w : World} (x : Step) {v0 : Value} (h0 : rep w (strsT 9 x.Asks) v0) {v2 : Value} (h2 : rep w (CasesT tCase x.Cases) v2) : reps w (Step.c tCase x) [v0, .int .i64 x.On, v2, .int .i64 x.Else, .int .i64 x.Fall, .bool x.End, .bool x.Bad, .string x.Give] := by
 simp only [Step.c, reps]
 exact ⟨_, _, rfl, h0, ⟨_, _, rfl, by simp only [rep], ⟨_, _, rfl, h2, ⟨_, _, rfl, by simp only [rep], ⟨_, _, rfl, by simp only [rep], ⟨_, _, rfl, by simp only [rep], ⟨_, _, rfl, by simp only [rep], ⟨_, _, rfl, by simp only [rep], rfl⟩⟩⟩⟩⟩⟩⟩⟩
theorem Step.oopen {tCase : Nat} {w : World} {x : Step} {vs : List Value} {F : List Nat} (h : owns w (Step.c tCase x) vs F) : ∃ v0 F0 v2 F2, vs = [v0, .int .i64 x.On, v2, .int .i64 x.Else, .int .i64 x.Fall, .bool x.End, .bool x.Bad, .string x.Give] ∧ own w (strsT 9 x.Asks) v0 F0 ∧ own w (CasesT tCase x.Cases) v2 F2 ∧ F = F0 ++ F2 := by
 simp only [Step.c, owns] at h
 obtain ⟨v0, _, F0, _, rfl, h0, ⟨v1, _, F1, _, rfl, h1, ⟨v2, _, F2, _, rfl, h2, ⟨v3, _, F3, _, rfl, h3, ⟨v4, _, F4, _, rfl, h4, ⟨v5, _, F5, _, rfl, h5, ⟨v6, _, F6, _, rfl, h6, ⟨v7, _, F7, _, rfl, h7, ⟨rfl, rfl⟩, rfl⟩, rfl⟩, rfl⟩, rfl⟩, rfl⟩, rfl⟩, rfl⟩, rfl⟩ := h
 simp only [own] at h1 h3 h4 h5 h6 h7
 obtain ⟨rfl, rfl⟩ := h1
 obtain ⟨rfl, rfl⟩ := h3
 obtain ⟨rfl, rfl⟩ := h4
 obtain ⟨rfl, rfl⟩ := h5
 obtain ⟨rfl, rfl⟩ := h6
 obtain ⟨rfl, rfl⟩ := h7
 exact ⟨v0, F0, v2, F2, rfl, h0, h2, by simp⟩
theorem Step.omk {tCase : Nat} {w : World} (x : Step) {v0 : Value} {F0 : List Nat} (h0 : own w (strsT 9 x.Asks) v0 F0) {v2 : Value} {F2 : List Nat} (h2 : own w (CasesT tCase x.Cases) v2 F2) : owns w (Step.c tCase x) [v0, .int .i64 x.On, v2, .int .i64 x.Else, .int .i64 x.Fall, .bool x.End, .bool x.Bad, .string x.Give] (F0 ++ F2) := by
 simp only [Step.c, owns]
 refine ⟨_, _, F0, F2, rfl, h0, ⟨_, _, [], F2, rfl, own_i _ _ _, ⟨_, _, F2, [], rfl, h2, ⟨_, _, [], [], rfl, own_i _ _ _, ⟨_, _, [], [], rfl, own_i _ _ _, ⟨_, _, [], [], rfl, own_b _ _, ⟨_, _, [], [], rfl, own_b _ _, ⟨_, _, [], [], rfl, own_s _ _, ⟨rfl, rfl⟩, by simp⟩, by simp⟩, by simp⟩, by simp⟩, by simp⟩, by simp⟩, by simp⟩, by simp⟩
theorem Step.elem {tStep tCase : Nat} {w : World} {xs : List Step} {v : Value} (h : rep w (StepsT tStep tCase xs) v) {i : Nat} (hi : i < xs.length) : ∃ a c v0 v2, v = .slice (some a) xs.length c ∧ w.cell? (a.add (i * 8)) = some (v0) ∧ w.cell? ⟨(a.add (i * 8)).block, (a.add (i * 8)).off + 1, none⟩ = some (.int .i64 xs[i].On) ∧ w.cell? ⟨(a.add (i * 8)).block, (a.add (i * 8)).off + 2, none⟩ = some (v2) ∧ w.cell? ⟨(a.add (i * 8)).block, (a.add (i * 8)).off + 3, none⟩ = some (.int .i64 xs[i].Else) ∧ w.cell? ⟨(a.add (i * 8)).block, (a.add (i * 8)).off + 4, none⟩ = some (.int .i64 xs[i].Fall) ∧ w.cell? ⟨(a.add (i * 8)).block, (a.add (i * 8)).off + 5, none⟩ = some (.bool xs[i].End) ∧ w.cell? ⟨(a.add (i * 8)).block, (a.add (i * 8)).off + 6, none⟩ = some (.bool xs[i].Bad) ∧ w.cell? ⟨(a.add (i * 8)).block, (a.add (i * 8)).off + 7, none⟩ = some (.string xs[i].Give) ∧ rep w (strsT 9 xs[i].Asks) v0 ∧ rep w (CasesT tCase xs[i].Cases) v2 ∧ reps w (Step.c tCase xs[i]) [v0, .int .i64 xs[i].On, v2, .int .i64 xs[i].Else, .int .i64 xs[i].Fall, .bool xs[i].End, .bool xs[i].Bad, .string xs[i].Give] := by
 obtain ⟨a, c, us, rfl, _, _, hr, hc⟩ := rep_elem h (fun _ => rfl) hi
 have hr0 := hr
 obtain ⟨v0, v2, rfl, h0, h2⟩ := Step.ropen hr
 exact ⟨a, c, v0, v2, rfl, hc 0 _ rfl, by rw [← add_fld _ _ 1 (by omega)]; exact hc 1 _ rfl, by rw [← add_fld _ _ 2 (by omega)]; exact hc 2 _ rfl, by rw [← add_fld _ _ 3 (by omega)]; exact hc 3 _ rfl, by rw [← add_fld _ _ 4 (by omega)]; exact hc 4 _ rfl, by rw [← add_fld _ _ 5 (by omega)]; exact hc 5 _ rfl, by rw [← add_fld _ _ 6 (by omega)]; exact hc 6 _ rfl, by rw [← add_fld _ _ 7 (by omega)]; exact hc 7 _ rfl, h0, h2, hr0⟩
structure Action where
 Cost : Int
 Steps : List Step
 deriving DecidableEq
def zAction : Action := ⟨0, []⟩
def Action.c (tStep tCase : Nat) (x : Action) : List T := [.i .i64 x.Cost, StepsT tStep tCase x.Steps]
def ActionsT (tAction tStep tCase : Nat) (xs : List Action) : T := tl tAction 2 (Action.c tStep tCase) xs
theorem Action.ropen {tStep tCase : Nat} {w : World} {x : Action} {vs : List Value} (h : reps w (Action.c tStep tCase x) vs) : ∃ v1, vs = [.int .i64 x.Cost, v1] ∧ rep w (StepsT tStep tCase x.Steps) v1 := by
 simp only [Action.c, reps] at h
 obtain ⟨v0, _, rfl, h0, ⟨v1, _, rfl, h1, rfl⟩⟩ := h
 simp only [rep] at h0
 subst h0
 exact ⟨v1, rfl, h1⟩
theorem Action.rmk {tStep tCase : Nat} {w : World} (x : Action) {v1 : Value} (h1 : rep w (StepsT tStep tCase x.Steps) v1) : reps w (Action.c tStep tCase x) [.int .i64 x.Cost, v1] := by
 simp only [Action.c, reps]
 exact ⟨_, _, rfl, by simp only [rep], ⟨_, _, rfl, h1, rfl⟩⟩
theorem Action.oopen {tStep tCase : Nat} {w : World} {x : Action} {vs : List Value} {F : List Nat} (h : owns w (Action.c tStep tCase x) vs F) : ∃ v1 F1, vs = [.int .i64 x.Cost, v1] ∧ own w (StepsT tStep tCase x.Steps) v1 F1 ∧ F = F1 := by
 simp only [Action.c, owns] at h
 obtain ⟨v0, _, F0, _, rfl, h0, ⟨v1, _, F1, _, rfl, h1, ⟨rfl, rfl⟩, rfl⟩, rfl⟩ := h
 simp only [own] at h0
 obtain ⟨rfl, rfl⟩ := h0
 exact ⟨v1, F1, rfl, h1, by simp⟩
theorem Action.omk {tStep tCase : Nat} {w : World} (x : Action) {v1 : Value} {F1 : List Nat} (h1 : own w (StepsT tStep tCase x.Steps) v1 F1) : owns w (Action.c tStep tCase x) [.int .i64 x.Cost, v1] (F1) := by
 simp only [Action.c, owns]
 refine ⟨_, _, [], F1, rfl, own_i _ _ _, ⟨_, _, F1, [], rfl, h1, ⟨rfl, rfl⟩, by simp⟩, by simp⟩
theorem Action.elem {tAction tStep tCase : Nat} {w : World} {xs : List Action} {v : Value} (h : rep w (ActionsT tAction tStep tCase xs) v) {i : Nat} (hi : i < xs.length) : ∃ a c v1, v = .slice (some a) xs.length c ∧ w.cell? (a.add (i * 2)) = some (.int .i64 xs[i].Cost) ∧ w.cell? ⟨(a.add (i * 2)).block, (a.add (i * 2)).off + 1, none⟩ = some (v1) ∧ rep w (StepsT tStep tCase xs[i].Steps) v1 ∧ reps w (Action.c tStep tCase xs[i]) [.int .i64 xs[i].Cost, v1] := by
 obtain ⟨a, c, us, rfl, _, _, hr, hc⟩ := rep_elem h (fun _ => rfl) hi
 have hr0 := hr
 obtain ⟨v1, rfl, h1⟩ := Action.ropen hr
 exact ⟨a, c, v1, rfl, hc 0 _ rfl, by rw [← add_fld _ _ 1 (by omega)]; exact hc 1 _ rfl, h1, hr0⟩
structure Node where
 Name : ByteArray
 Action : Action
 deriving DecidableEq
def zNode : Node := ⟨⟨#[]⟩, zAction⟩
def Node.c (tStep tCase : Nat) (x : Node) : List T := [.s x.Name, .i .i64 x.Action.Cost, StepsT tStep tCase x.Action.Steps]
def NodesT (tNode tStep tCase : Nat) (xs : List Node) : T := tl tNode 3 (Node.c tStep tCase) xs
theorem Node.ropen {tStep tCase : Nat} {w : World} {x : Node} {vs : List Value} (h : reps w (Node.c tStep tCase x) vs) : ∃ v2, vs = [.string x.Name, .int .i64 x.Action.Cost, v2] ∧ rep w (StepsT tStep tCase x.Action.Steps) v2 := by
 simp only [Node.c, reps] at h
 obtain ⟨v0, _, rfl, h0, ⟨v1, _, rfl, h1, ⟨v2, _, rfl, h2, rfl⟩⟩⟩ := h
 simp only [rep] at h0 h1
 subst h0 h1
 exact ⟨v2, rfl, h2⟩
theorem Node.rmk {tStep tCase : Nat} {w : World} (x : Node) {v2 : Value} (h2 : rep w (StepsT tStep tCase x.Action.Steps) v2) : reps w (Node.c tStep tCase x) [.string x.Name, .int .i64 x.Action.Cost, v2] := by
 simp only [Node.c, reps]
 exact ⟨_, _, rfl, by simp only [rep], ⟨_, _, rfl, by simp only [rep], ⟨_, _, rfl, h2, rfl⟩⟩⟩
theorem Node.oopen {tStep tCase : Nat} {w : World} {x : Node} {vs : List Value} {F : List Nat} (h : owns w (Node.c tStep tCase x) vs F) : ∃ v2 F2, vs = [.string x.Name, .int .i64 x.Action.Cost, v2] ∧ own w (StepsT tStep tCase x.Action.Steps) v2 F2 ∧ F = F2 := by
 simp only [Node.c, owns] at h
 obtain ⟨v0, _, F0, _, rfl, h0, ⟨v1, _, F1, _, rfl, h1, ⟨v2, _, F2, _, rfl, h2, ⟨rfl, rfl⟩, rfl⟩, rfl⟩, rfl⟩ := h
 simp only [own] at h0 h1
 obtain ⟨rfl, rfl⟩ := h0
 obtain ⟨rfl, rfl⟩ := h1
 exact ⟨v2, F2, rfl, h2, by simp⟩
theorem Node.omk {tStep tCase : Nat} {w : World} (x : Node) {v2 : Value} {F2 : List Nat} (h2 : own w (StepsT tStep tCase x.Action.Steps) v2 F2) : owns w (Node.c tStep tCase x) [.string x.Name, .int .i64 x.Action.Cost, v2] (F2) := by
 simp only [Node.c, owns]
 refine ⟨_, _, [], F2, rfl, own_s _ _, ⟨_, _, [], F2, rfl, own_i _ _ _, ⟨_, _, F2, [], rfl, h2, ⟨rfl, rfl⟩, by simp⟩, by simp⟩, by simp⟩
theorem Node.elem {tNode tStep tCase : Nat} {w : World} {xs : List Node} {v : Value} (h : rep w (NodesT tNode tStep tCase xs) v) {i : Nat} (hi : i < xs.length) : ∃ a c v2, v = .slice (some a) xs.length c ∧ w.cell? (a.add (i * 3)) = some (.string xs[i].Name) ∧ w.cell? ⟨(a.add (i * 3)).block, (a.add (i * 3)).off + 1, none⟩ = some (.int .i64 xs[i].Action.Cost) ∧ w.cell? ⟨(a.add (i * 3)).block, (a.add (i * 3)).off + 2, none⟩ = some (v2) ∧ rep w (StepsT tStep tCase xs[i].Action.Steps) v2 ∧ reps w (Node.c tStep tCase xs[i]) [.string xs[i].Name, .int .i64 xs[i].Action.Cost, v2] := by
 obtain ⟨a, c, us, rfl, _, _, hr, hc⟩ := rep_elem h (fun _ => rfl) hi
 have hr0 := hr
 obtain ⟨v2, rfl, h2⟩ := Node.ropen hr
 exact ⟨a, c, v2, rfl, hc 0 _ rfl, by rw [← add_fld _ _ 1 (by omega)]; exact hc 1 _ rfl, by rw [← add_fld _ _ 2 (by omega)]; exact hc 2 _ rfl, h2, hr0⟩
structure Web where
 Nodes : List Node
 deriving DecidableEq
def zWeb : Web := ⟨[]⟩
def Web.c (tNode tStep tCase : Nat) (x : Web) : List T := [NodesT tNode tStep tCase x.Nodes]
def WebsT (tWeb tNode tStep tCase : Nat) (xs : List Web) : T := tl tWeb 1 (Web.c tNode tStep tCase) xs
theorem Web.ropen {tNode tStep tCase : Nat} {w : World} {x : Web} {vs : List Value} (h : reps w (Web.c tNode tStep tCase x) vs) : ∃ v0, vs = [v0] ∧ rep w (NodesT tNode tStep tCase x.Nodes) v0 := by
 simp only [Web.c, reps] at h
 obtain ⟨v0, _, rfl, h0, rfl⟩ := h
 exact ⟨v0, rfl, h0⟩
theorem Web.rmk {tNode tStep tCase : Nat} {w : World} (x : Web) {v0 : Value} (h0 : rep w (NodesT tNode tStep tCase x.Nodes) v0) : reps w (Web.c tNode tStep tCase x) [v0] := by
 simp only [Web.c, reps]
 exact ⟨_, _, rfl, h0, rfl⟩
theorem Web.oopen {tNode tStep tCase : Nat} {w : World} {x : Web} {vs : List Value} {F : List Nat} (h : owns w (Web.c tNode tStep tCase x) vs F) : ∃ v0 F0, vs = [v0] ∧ own w (NodesT tNode tStep tCase x.Nodes) v0 F0 ∧ F = F0 := by
 simp only [Web.c, owns] at h
 obtain ⟨v0, _, F0, _, rfl, h0, ⟨rfl, rfl⟩, rfl⟩ := h
 exact ⟨v0, F0, rfl, h0, by simp⟩
theorem Web.omk {tNode tStep tCase : Nat} {w : World} (x : Web) {v0 : Value} {F0 : List Nat} (h0 : own w (NodesT tNode tStep tCase x.Nodes) v0 F0) : owns w (Web.c tNode tStep tCase x) [v0] (F0) := by
 simp only [Web.c, owns]
 refine ⟨_, _, F0, [], rfl, h0, ⟨rfl, rfl⟩, by simp⟩
theorem Web.elem {tWeb tNode tStep tCase : Nat} {w : World} {xs : List Web} {v : Value} (h : rep w (WebsT tWeb tNode tStep tCase xs) v) {i : Nat} (hi : i < xs.length) : ∃ a c v0, v = .slice (some a) xs.length c ∧ w.cell? (a.add i) = some (v0) ∧ rep w (NodesT tNode tStep tCase xs[i].Nodes) v0 ∧ reps w (Web.c tNode tStep tCase xs[i]) [v0] := by
 obtain ⟨a, c, us, rfl, _, _, hr, hc⟩ := rep_elem h (fun _ => rfl) hi
 have hr0 := hr
 obtain ⟨v0, rfl, h0⟩ := Web.ropen hr
 exact ⟨a, c, v0, rfl, by have := hc 0 _ rfl; rwa [Nat.mul_one, Nat.add_zero] at this, h0, hr0⟩
structure Answer where
 Fail : Bool
 Text : ByteArray
 deriving DecidableEq
def zAnswer : Answer := ⟨false, ⟨#[]⟩⟩
def Answer.c (x : Answer) : List T := [.b x.Fail, .s x.Text]
def AnswersT (tAnswer : Nat) (xs : List Answer) : T := tl tAnswer 2 Answer.c xs
theorem Answer.ropen {w : World} {x : Answer} {vs : List Value} (h : reps w (Answer.c x) vs) : vs = [.bool x.Fail, .string x.Text] := by
 simp only [Answer.c, reps, rep] at h
 obtain ⟨v0, _, rfl, h0, ⟨v1, _, rfl, h1, rfl⟩⟩ := h
 subst h0 h1
 exact rfl
theorem Answer.rmk {w : World} (x : Answer) : reps w (Answer.c x) [.bool x.Fail, .string x.Text] := by
 simp only [Answer.c, reps]
 exact ⟨_, _, rfl, by simp only [rep], ⟨_, _, rfl, by simp only [rep], rfl⟩⟩
theorem Answer.oopen {w : World} {x : Answer} {vs : List Value} {F : List Nat} (h : owns w (Answer.c x) vs F) : vs = [.bool x.Fail, .string x.Text] ∧ F = [] := by
 simp only [Answer.c, owns] at h
 obtain ⟨v0, _, F0, _, rfl, h0, ⟨v1, _, F1, _, rfl, h1, ⟨rfl, rfl⟩, rfl⟩, rfl⟩ := h
 simp only [own] at h0 h1
 obtain ⟨rfl, rfl⟩ := h0
 obtain ⟨rfl, rfl⟩ := h1
 exact ⟨rfl, by simp⟩
theorem Answer.omk {w : World} (x : Answer) : owns w (Answer.c x) [.bool x.Fail, .string x.Text] ([]) := by
 simp only [Answer.c, owns]
 exact ⟨_, _, [], _, rfl, own_b _ _, ⟨_, _, [], _, rfl, own_s _ _, ⟨rfl, rfl⟩, rfl⟩, rfl⟩
theorem Answer.elem {tAnswer : Nat} {w : World} {xs : List Answer} {v : Value} (h : rep w (AnswersT tAnswer xs) v) {i : Nat} (hi : i < xs.length) : ∃ a c, v = .slice (some a) xs.length c ∧ w.cell? (a.add (i * 2)) = some (.bool xs[i].Fail) ∧ w.cell? ⟨(a.add (i * 2)).block, (a.add (i * 2)).off + 1, none⟩ = some (.string xs[i].Text) ∧ reps w (Answer.c xs[i]) [.bool xs[i].Fail, .string xs[i].Text] := by
 obtain ⟨a, c, us, rfl, _, _, hr, hc⟩ := rep_elem h (fun _ => rfl) hi
 have hr0 := hr
 obtain rfl := Answer.ropen hr
 exact ⟨a, c, rfl, hc 0 _ rfl, by rw [← add_fld _ _ 1 (by omega)]; exact hc 1 _ rfl, hr0⟩
structure Gone where
 Code : Int
 Over : Bool
 At : Int
 Text : ByteArray
 deriving DecidableEq
def zGone : Gone := ⟨0, false, 0, ⟨#[]⟩⟩
def Gone.c (x : Gone) : List T := [.i .i64 x.Code, .b x.Over, .i .i64 x.At, .s x.Text]
def GonesT (tGone : Nat) (xs : List Gone) : T := tl tGone 4 Gone.c xs
theorem Gone.ropen {w : World} {x : Gone} {vs : List Value} (h : reps w (Gone.c x) vs) : vs = [.int .i64 x.Code, .bool x.Over, .int .i64 x.At, .string x.Text] := by
 simp only [Gone.c, reps, rep] at h
 obtain ⟨v0, _, rfl, h0, ⟨v1, _, rfl, h1, ⟨v2, _, rfl, h2, ⟨v3, _, rfl, h3, rfl⟩⟩⟩⟩ := h
 subst h0 h1 h2 h3
 exact rfl
theorem Gone.rmk {w : World} (x : Gone) : reps w (Gone.c x) [.int .i64 x.Code, .bool x.Over, .int .i64 x.At, .string x.Text] := by
 simp only [Gone.c, reps]
 exact ⟨_, _, rfl, by simp only [rep], ⟨_, _, rfl, by simp only [rep], ⟨_, _, rfl, by simp only [rep], ⟨_, _, rfl, by simp only [rep], rfl⟩⟩⟩⟩
theorem Gone.oopen {w : World} {x : Gone} {vs : List Value} {F : List Nat} (h : owns w (Gone.c x) vs F) : vs = [.int .i64 x.Code, .bool x.Over, .int .i64 x.At, .string x.Text] ∧ F = [] := by
 simp only [Gone.c, owns] at h
 obtain ⟨v0, _, F0, _, rfl, h0, ⟨v1, _, F1, _, rfl, h1, ⟨v2, _, F2, _, rfl, h2, ⟨v3, _, F3, _, rfl, h3, ⟨rfl, rfl⟩, rfl⟩, rfl⟩, rfl⟩, rfl⟩ := h
 simp only [own] at h0 h1 h2 h3
 obtain ⟨rfl, rfl⟩ := h0
 obtain ⟨rfl, rfl⟩ := h1
 obtain ⟨rfl, rfl⟩ := h2
 obtain ⟨rfl, rfl⟩ := h3
 exact ⟨rfl, by simp⟩
theorem Gone.omk {w : World} (x : Gone) : owns w (Gone.c x) [.int .i64 x.Code, .bool x.Over, .int .i64 x.At, .string x.Text] ([]) := by
 simp only [Gone.c, owns]
 exact ⟨_, _, [], _, rfl, own_i _ _ _, ⟨_, _, [], _, rfl, own_b _ _, ⟨_, _, [], _, rfl, own_i _ _ _, ⟨_, _, [], _, rfl, own_s _ _, ⟨rfl, rfl⟩, rfl⟩, rfl⟩, rfl⟩, rfl⟩
theorem Gone.elem {tGone : Nat} {w : World} {xs : List Gone} {v : Value} (h : rep w (GonesT tGone xs) v) {i : Nat} (hi : i < xs.length) : ∃ a c, v = .slice (some a) xs.length c ∧ w.cell? (a.add (i * 4)) = some (.int .i64 xs[i].Code) ∧ w.cell? ⟨(a.add (i * 4)).block, (a.add (i * 4)).off + 1, none⟩ = some (.bool xs[i].Over) ∧ w.cell? ⟨(a.add (i * 4)).block, (a.add (i * 4)).off + 2, none⟩ = some (.int .i64 xs[i].At) ∧ w.cell? ⟨(a.add (i * 4)).block, (a.add (i * 4)).off + 3, none⟩ = some (.string xs[i].Text) ∧ reps w (Gone.c xs[i]) [.int .i64 xs[i].Code, .bool xs[i].Over, .int .i64 xs[i].At, .string xs[i].Text] := by
 obtain ⟨a, c, us, rfl, _, _, hr, hc⟩ := rep_elem h (fun _ => rfl) hi
 have hr0 := hr
 obtain rfl := Gone.ropen hr
 exact ⟨a, c, rfl, hc 0 _ rfl, by rw [← add_fld _ _ 1 (by omega)]; exact hc 1 _ rfl, by rw [← add_fld _ _ 2 (by omega)]; exact hc 2 _ rfl, by rw [← add_fld _ _ 3 (by omega)]; exact hc 3 _ rfl, hr0⟩
structure Run where
 Name : ByteArray
 Over : Bool
 Fail : Bool
 Text : ByteArray
 At : Int
 Visits : Int
 Texts : List ByteArray
 deriving DecidableEq
def zRun : Run := ⟨⟨#[]⟩, false, false, ⟨#[]⟩, 0, 0, []⟩
def Run.c (x : Run) : List T := [.s x.Name, .b x.Over, .b x.Fail, .s x.Text, .i .i64 x.At, .i .i64 x.Visits, strsT 9 x.Texts]
def RunsT (tRun : Nat) (xs : List Run) : T := tl tRun 7 Run.c xs
theorem Run.ropen {w : World} {x : Run} {vs : List Value} (h : reps w (Run.c x) vs) : ∃ v6, vs = [.string x.Name, .bool x.Over, .bool x.Fail, .string x.Text, .int .i64 x.At, .int .i64 x.Visits, v6] ∧ rep w (strsT 9 x.Texts) v6 := by
 simp only [Run.c, reps] at h
 obtain ⟨v0, _, rfl, h0, ⟨v1, _, rfl, h1, ⟨v2, _, rfl, h2, ⟨v3, _, rfl, h3, ⟨v4, _, rfl, h4, ⟨v5, _, rfl, h5, ⟨v6, _, rfl, h6, rfl⟩⟩⟩⟩⟩⟩⟩ := h
 simp only [rep] at h0 h1 h2 h3 h4 h5
 subst h0 h1 h2 h3 h4 h5
 exact ⟨v6, rfl, h6⟩
theorem Run.rmk {w : World} (x : Run) {v6 : Value} (h6 : rep w (strsT 9 x.Texts) v6) : reps w (Run.c x) [.string x.Name, .bool x.Over, .bool x.Fail, .string x.Text, .int .i64 x.At, .int .i64 x.Visits, v6] := by
 simp only [Run.c, reps]
 exact ⟨_, _, rfl, by simp only [rep], ⟨_, _, rfl, by simp only [rep], ⟨_, _, rfl, by simp only [rep], ⟨_, _, rfl, by simp only [rep], ⟨_, _, rfl, by simp only [rep], ⟨_, _, rfl, by simp only [rep], ⟨_, _, rfl, h6, rfl⟩⟩⟩⟩⟩⟩⟩
theorem Run.oopen {w : World} {x : Run} {vs : List Value} {F : List Nat} (h : owns w (Run.c x) vs F) : ∃ v6 F6, vs = [.string x.Name, .bool x.Over, .bool x.Fail, .string x.Text, .int .i64 x.At, .int .i64 x.Visits, v6] ∧ own w (strsT 9 x.Texts) v6 F6 ∧ F = F6 := by
 simp only [Run.c, owns] at h
 obtain ⟨v0, _, F0, _, rfl, h0, ⟨v1, _, F1, _, rfl, h1, ⟨v2, _, F2, _, rfl, h2, ⟨v3, _, F3, _, rfl, h3, ⟨v4, _, F4, _, rfl, h4, ⟨v5, _, F5, _, rfl, h5, ⟨v6, _, F6, _, rfl, h6, ⟨rfl, rfl⟩, rfl⟩, rfl⟩, rfl⟩, rfl⟩, rfl⟩, rfl⟩, rfl⟩ := h
 simp only [own] at h0 h1 h2 h3 h4 h5
 obtain ⟨rfl, rfl⟩ := h0
 obtain ⟨rfl, rfl⟩ := h1
 obtain ⟨rfl, rfl⟩ := h2
 obtain ⟨rfl, rfl⟩ := h3
 obtain ⟨rfl, rfl⟩ := h4
 obtain ⟨rfl, rfl⟩ := h5
 exact ⟨v6, F6, rfl, h6, by simp⟩
theorem Run.omk {w : World} (x : Run) {v6 : Value} {F6 : List Nat} (h6 : own w (strsT 9 x.Texts) v6 F6) : owns w (Run.c x) [.string x.Name, .bool x.Over, .bool x.Fail, .string x.Text, .int .i64 x.At, .int .i64 x.Visits, v6] (F6) := by
 simp only [Run.c, owns]
 refine ⟨_, _, [], F6, rfl, own_s _ _, ⟨_, _, [], F6, rfl, own_b _ _, ⟨_, _, [], F6, rfl, own_b _ _, ⟨_, _, [], F6, rfl, own_s _ _, ⟨_, _, [], F6, rfl, own_i _ _ _, ⟨_, _, [], F6, rfl, own_i _ _ _, ⟨_, _, F6, [], rfl, h6, ⟨rfl, rfl⟩, by simp⟩, by simp⟩, by simp⟩, by simp⟩, by simp⟩, by simp⟩, by simp⟩
theorem Run.elem {tRun : Nat} {w : World} {xs : List Run} {v : Value} (h : rep w (RunsT tRun xs) v) {i : Nat} (hi : i < xs.length) : ∃ a c v6, v = .slice (some a) xs.length c ∧ w.cell? (a.add (i * 7)) = some (.string xs[i].Name) ∧ w.cell? ⟨(a.add (i * 7)).block, (a.add (i * 7)).off + 1, none⟩ = some (.bool xs[i].Over) ∧ w.cell? ⟨(a.add (i * 7)).block, (a.add (i * 7)).off + 2, none⟩ = some (.bool xs[i].Fail) ∧ w.cell? ⟨(a.add (i * 7)).block, (a.add (i * 7)).off + 3, none⟩ = some (.string xs[i].Text) ∧ w.cell? ⟨(a.add (i * 7)).block, (a.add (i * 7)).off + 4, none⟩ = some (.int .i64 xs[i].At) ∧ w.cell? ⟨(a.add (i * 7)).block, (a.add (i * 7)).off + 5, none⟩ = some (.int .i64 xs[i].Visits) ∧ w.cell? ⟨(a.add (i * 7)).block, (a.add (i * 7)).off + 6, none⟩ = some (v6) ∧ rep w (strsT 9 xs[i].Texts) v6 ∧ reps w (Run.c xs[i]) [.string xs[i].Name, .bool xs[i].Over, .bool xs[i].Fail, .string xs[i].Text, .int .i64 xs[i].At, .int .i64 xs[i].Visits, v6] := by
 obtain ⟨a, c, us, rfl, _, _, hr, hc⟩ := rep_elem h (fun _ => rfl) hi
 have hr0 := hr
 obtain ⟨v6, rfl, h6⟩ := Run.ropen hr
 exact ⟨a, c, v6, rfl, hc 0 _ rfl, by rw [← add_fld _ _ 1 (by omega)]; exact hc 1 _ rfl, by rw [← add_fld _ _ 2 (by omega)]; exact hc 2 _ rfl, by rw [← add_fld _ _ 3 (by omega)]; exact hc 3 _ rfl, by rw [← add_fld _ _ 4 (by omega)]; exact hc 4 _ rfl, by rw [← add_fld _ _ 5 (by omega)]; exact hc 5 _ rfl, by rw [← add_fld _ _ 6 (by omega)]; exact hc 6 _ rfl, h6, hr0⟩
structure State where
 Roots : List ByteArray
 Runs : List Run
 deriving DecidableEq
def zState : State := ⟨[], []⟩
def State.c (tRun : Nat) (x : State) : List T := [strsT 9 x.Roots, RunsT tRun x.Runs]
def StatesT (tState tRun : Nat) (xs : List State) : T := tl tState 2 (State.c tRun) xs
theorem State.ropen {tRun : Nat} {w : World} {x : State} {vs : List Value} (h : reps w (State.c tRun x) vs) : ∃ v0 v1, vs = [v0, v1] ∧ rep w (strsT 9 x.Roots) v0 ∧ rep w (RunsT tRun x.Runs) v1 := by
 simp only [State.c, reps] at h
 obtain ⟨v0, _, rfl, h0, ⟨v1, _, rfl, h1, rfl⟩⟩ := h
 exact ⟨v0, v1, rfl, h0, h1⟩
theorem State.rmk {tRun : Nat} {w : World} (x : State) {v0 : Value} (h0 : rep w (strsT 9 x.Roots) v0) {v1 : Value} (h1 : rep w (RunsT tRun x.Runs) v1) : reps w (State.c tRun x) [v0, v1] := by
 simp only [State.c, reps]
 exact ⟨_, _, rfl, h0, ⟨_, _, rfl, h1, rfl⟩⟩
theorem State.oopen {tRun : Nat} {w : World} {x : State} {vs : List Value} {F : List Nat} (h : owns w (State.c tRun x) vs F) : ∃ v0 F0 v1 F1, vs = [v0, v1] ∧ own w (strsT 9 x.Roots) v0 F0 ∧ own w (RunsT tRun x.Runs) v1 F1 ∧ F = F0 ++ F1 := by
 simp only [State.c, owns] at h
 obtain ⟨v0, _, F0, _, rfl, h0, ⟨v1, _, F1, _, rfl, h1, ⟨rfl, rfl⟩, rfl⟩, rfl⟩ := h
 exact ⟨v0, F0, v1, F1, rfl, h0, h1, by simp⟩
theorem State.omk {tRun : Nat} {w : World} (x : State) {v0 : Value} {F0 : List Nat} (h0 : own w (strsT 9 x.Roots) v0 F0) {v1 : Value} {F1 : List Nat} (h1 : own w (RunsT tRun x.Runs) v1 F1) : owns w (State.c tRun x) [v0, v1] (F0 ++ F1) := by
 simp only [State.c, owns]
 refine ⟨_, _, F0, F1, rfl, h0, ⟨_, _, F1, [], rfl, h1, ⟨rfl, rfl⟩, by simp⟩, by simp⟩
theorem State.elem {tState tRun : Nat} {w : World} {xs : List State} {v : Value} (h : rep w (StatesT tState tRun xs) v) {i : Nat} (hi : i < xs.length) : ∃ a c v0 v1, v = .slice (some a) xs.length c ∧ w.cell? (a.add (i * 2)) = some (v0) ∧ w.cell? ⟨(a.add (i * 2)).block, (a.add (i * 2)).off + 1, none⟩ = some (v1) ∧ rep w (strsT 9 xs[i].Roots) v0 ∧ rep w (RunsT tRun xs[i].Runs) v1 ∧ reps w (State.c tRun xs[i]) [v0, v1] := by
 obtain ⟨a, c, us, rfl, _, _, hr, hc⟩ := rep_elem h (fun _ => rfl) hi
 have hr0 := hr
 obtain ⟨v0, v1, rfl, h0, h1⟩ := State.ropen hr
 exact ⟨a, c, v0, v1, rfl, hc 0 _ rfl, by rw [← add_fld _ _ 1 (by omega)]; exact hc 1 _ rfl, h0, h1, hr0⟩
structure Result where
 Name : ByteArray
 Over : Bool
 Fail : Bool
 Text : ByteArray
 deriving DecidableEq
def zResult : Result := ⟨⟨#[]⟩, false, false, ⟨#[]⟩⟩
def Result.c (x : Result) : List T := [.s x.Name, .b x.Over, .b x.Fail, .s x.Text]
def ResultsT (tResult : Nat) (xs : List Result) : T := tl tResult 4 Result.c xs
theorem Result.ropen {w : World} {x : Result} {vs : List Value} (h : reps w (Result.c x) vs) : vs = [.string x.Name, .bool x.Over, .bool x.Fail, .string x.Text] := by
 simp only [Result.c, reps, rep] at h
 obtain ⟨v0, _, rfl, h0, ⟨v1, _, rfl, h1, ⟨v2, _, rfl, h2, ⟨v3, _, rfl, h3, rfl⟩⟩⟩⟩ := h
 subst h0 h1 h2 h3
 exact rfl
theorem Result.rmk {w : World} (x : Result) : reps w (Result.c x) [.string x.Name, .bool x.Over, .bool x.Fail, .string x.Text] := by
 simp only [Result.c, reps]
 exact ⟨_, _, rfl, by simp only [rep], ⟨_, _, rfl, by simp only [rep], ⟨_, _, rfl, by simp only [rep], ⟨_, _, rfl, by simp only [rep], rfl⟩⟩⟩⟩
theorem Result.oopen {w : World} {x : Result} {vs : List Value} {F : List Nat} (h : owns w (Result.c x) vs F) : vs = [.string x.Name, .bool x.Over, .bool x.Fail, .string x.Text] ∧ F = [] := by
 simp only [Result.c, owns] at h
 obtain ⟨v0, _, F0, _, rfl, h0, ⟨v1, _, F1, _, rfl, h1, ⟨v2, _, F2, _, rfl, h2, ⟨v3, _, F3, _, rfl, h3, ⟨rfl, rfl⟩, rfl⟩, rfl⟩, rfl⟩, rfl⟩ := h
 simp only [own] at h0 h1 h2 h3
 obtain ⟨rfl, rfl⟩ := h0
 obtain ⟨rfl, rfl⟩ := h1
 obtain ⟨rfl, rfl⟩ := h2
 obtain ⟨rfl, rfl⟩ := h3
 exact ⟨rfl, by simp⟩
theorem Result.omk {w : World} (x : Result) : owns w (Result.c x) [.string x.Name, .bool x.Over, .bool x.Fail, .string x.Text] ([]) := by
 simp only [Result.c, owns]
 exact ⟨_, _, [], _, rfl, own_s _ _, ⟨_, _, [], _, rfl, own_b _ _, ⟨_, _, [], _, rfl, own_b _ _, ⟨_, _, [], _, rfl, own_s _ _, ⟨rfl, rfl⟩, rfl⟩, rfl⟩, rfl⟩, rfl⟩
theorem Result.elem {tResult : Nat} {w : World} {xs : List Result} {v : Value} (h : rep w (ResultsT tResult xs) v) {i : Nat} (hi : i < xs.length) : ∃ a c, v = .slice (some a) xs.length c ∧ w.cell? (a.add (i * 4)) = some (.string xs[i].Name) ∧ w.cell? ⟨(a.add (i * 4)).block, (a.add (i * 4)).off + 1, none⟩ = some (.bool xs[i].Over) ∧ w.cell? ⟨(a.add (i * 4)).block, (a.add (i * 4)).off + 2, none⟩ = some (.bool xs[i].Fail) ∧ w.cell? ⟨(a.add (i * 4)).block, (a.add (i * 4)).off + 3, none⟩ = some (.string xs[i].Text) ∧ reps w (Result.c xs[i]) [.string xs[i].Name, .bool xs[i].Over, .bool xs[i].Fail, .string xs[i].Text] := by
 obtain ⟨a, c, us, rfl, _, _, hr, hc⟩ := rep_elem h (fun _ => rfl) hi
 have hr0 := hr
 obtain rfl := Result.ropen hr
 exact ⟨a, c, rfl, hc 0 _ rfl, by rw [← add_fld _ _ 1 (by omega)]; exact hc 1 _ rfl, by rw [← add_fld _ _ 2 (by omega)]; exact hc 2 _ rfl, by rw [← add_fld _ _ 3 (by omega)]; exact hc 3 _ rfl, hr0⟩
structure Outcome where
 Code : Int
 Results : List Result
 Chain : List ByteArray
 Units : Int
 Cost : Int
 deriving DecidableEq
def zOutcome : Outcome := ⟨0, [], [], 0, 0⟩
def Outcome.c (tResult : Nat) (x : Outcome) : List T := [.i .i64 x.Code, ResultsT tResult x.Results, strsT 9 x.Chain, .i .i64 x.Units, .i .i64 x.Cost]
def OutcomesT (tOutcome tResult : Nat) (xs : List Outcome) : T := tl tOutcome 5 (Outcome.c tResult) xs
theorem Outcome.ropen {tResult : Nat} {w : World} {x : Outcome} {vs : List Value} (h : reps w (Outcome.c tResult x) vs) : ∃ v1 v2, vs = [.int .i64 x.Code, v1, v2, .int .i64 x.Units, .int .i64 x.Cost] ∧ rep w (ResultsT tResult x.Results) v1 ∧ rep w (strsT 9 x.Chain) v2 := by
 simp only [Outcome.c, reps] at h
 obtain ⟨v0, _, rfl, h0, ⟨v1, _, rfl, h1, ⟨v2, _, rfl, h2, ⟨v3, _, rfl, h3, ⟨v4, _, rfl, h4, rfl⟩⟩⟩⟩⟩ := h
 simp only [rep] at h0 h3 h4
 subst h0 h3 h4
 exact ⟨v1, v2, rfl, h1, h2⟩
theorem Outcome.rmk {tResult : Nat} {w : World} (x : Outcome) {v1 : Value} (h1 : rep w (ResultsT tResult x.Results) v1) {v2 : Value} (h2 : rep w (strsT 9 x.Chain) v2) : reps w (Outcome.c tResult x) [.int .i64 x.Code, v1, v2, .int .i64 x.Units, .int .i64 x.Cost] := by
 simp only [Outcome.c, reps]
 exact ⟨_, _, rfl, by simp only [rep], ⟨_, _, rfl, h1, ⟨_, _, rfl, h2, ⟨_, _, rfl, by simp only [rep], ⟨_, _, rfl, by simp only [rep], rfl⟩⟩⟩⟩⟩
theorem Outcome.oopen {tResult : Nat} {w : World} {x : Outcome} {vs : List Value} {F : List Nat} (h : owns w (Outcome.c tResult x) vs F) : ∃ v1 F1 v2 F2, vs = [.int .i64 x.Code, v1, v2, .int .i64 x.Units, .int .i64 x.Cost] ∧ own w (ResultsT tResult x.Results) v1 F1 ∧ own w (strsT 9 x.Chain) v2 F2 ∧ F = F1 ++ F2 := by
 simp only [Outcome.c, owns] at h
 obtain ⟨v0, _, F0, _, rfl, h0, ⟨v1, _, F1, _, rfl, h1, ⟨v2, _, F2, _, rfl, h2, ⟨v3, _, F3, _, rfl, h3, ⟨v4, _, F4, _, rfl, h4, ⟨rfl, rfl⟩, rfl⟩, rfl⟩, rfl⟩, rfl⟩, rfl⟩ := h
 simp only [own] at h0 h3 h4
 obtain ⟨rfl, rfl⟩ := h0
 obtain ⟨rfl, rfl⟩ := h3
 obtain ⟨rfl, rfl⟩ := h4
 exact ⟨v1, F1, v2, F2, rfl, h1, h2, by simp⟩
theorem Outcome.omk {tResult : Nat} {w : World} (x : Outcome) {v1 : Value} {F1 : List Nat} (h1 : own w (ResultsT tResult x.Results) v1 F1) {v2 : Value} {F2 : List Nat} (h2 : own w (strsT 9 x.Chain) v2 F2) : owns w (Outcome.c tResult x) [.int .i64 x.Code, v1, v2, .int .i64 x.Units, .int .i64 x.Cost] (F1 ++ F2) := by
 simp only [Outcome.c, owns]
 refine ⟨_, _, [], F1 ++ F2, rfl, own_i _ _ _, ⟨_, _, F1, F2, rfl, h1, ⟨_, _, F2, [], rfl, h2, ⟨_, _, [], [], rfl, own_i _ _ _, ⟨_, _, [], [], rfl, own_i _ _ _, ⟨rfl, rfl⟩, by simp⟩, by simp⟩, by simp⟩, by simp⟩, by simp⟩
theorem Outcome.elem {tOutcome tResult : Nat} {w : World} {xs : List Outcome} {v : Value} (h : rep w (OutcomesT tOutcome tResult xs) v) {i : Nat} (hi : i < xs.length) : ∃ a c v1 v2, v = .slice (some a) xs.length c ∧ w.cell? (a.add (i * 5)) = some (.int .i64 xs[i].Code) ∧ w.cell? ⟨(a.add (i * 5)).block, (a.add (i * 5)).off + 1, none⟩ = some (v1) ∧ w.cell? ⟨(a.add (i * 5)).block, (a.add (i * 5)).off + 2, none⟩ = some (v2) ∧ w.cell? ⟨(a.add (i * 5)).block, (a.add (i * 5)).off + 3, none⟩ = some (.int .i64 xs[i].Units) ∧ w.cell? ⟨(a.add (i * 5)).block, (a.add (i * 5)).off + 4, none⟩ = some (.int .i64 xs[i].Cost) ∧ rep w (ResultsT tResult xs[i].Results) v1 ∧ rep w (strsT 9 xs[i].Chain) v2 ∧ reps w (Outcome.c tResult xs[i]) [.int .i64 xs[i].Code, v1, v2, .int .i64 xs[i].Units, .int .i64 xs[i].Cost] := by
 obtain ⟨a, c, us, rfl, _, _, hr, hc⟩ := rep_elem h (fun _ => rfl) hi
 have hr0 := hr
 obtain ⟨v1, v2, rfl, h1, h2⟩ := Outcome.ropen hr
 exact ⟨a, c, v1, v2, rfl, hc 0 _ rfl, by rw [← add_fld _ _ 1 (by omega)]; exact hc 1 _ rfl, by rw [← add_fld _ _ 2 (by omega)]; exact hc 2 _ rfl, by rw [← add_fld _ _ 3 (by omega)]; exact hc 3 _ rfl, by rw [← add_fld _ _ 4 (by omega)]; exact hc 4 _ rfl, h1, h2, hr0⟩
structure Walk where
 State : State
 Done : List ByteArray
 deriving DecidableEq
def zWalk : Walk := ⟨zState, []⟩
def Walk.c (tRun : Nat) (x : Walk) : List T := [strsT 9 x.State.Roots, RunsT tRun x.State.Runs, strsT 9 x.Done]
def WalksT (tWalk tRun : Nat) (xs : List Walk) : T := tl tWalk 3 (Walk.c tRun) xs
theorem Walk.ropen {tRun : Nat} {w : World} {x : Walk} {vs : List Value} (h : reps w (Walk.c tRun x) vs) : ∃ v0 v1 v2, vs = [v0, v1, v2] ∧ rep w (strsT 9 x.State.Roots) v0 ∧ rep w (RunsT tRun x.State.Runs) v1 ∧ rep w (strsT 9 x.Done) v2 := by
 simp only [Walk.c, reps] at h
 obtain ⟨v0, _, rfl, h0, ⟨v1, _, rfl, h1, ⟨v2, _, rfl, h2, rfl⟩⟩⟩ := h
 exact ⟨v0, v1, v2, rfl, h0, h1, h2⟩
theorem Walk.rmk {tRun : Nat} {w : World} (x : Walk) {v0 : Value} (h0 : rep w (strsT 9 x.State.Roots) v0) {v1 : Value} (h1 : rep w (RunsT tRun x.State.Runs) v1) {v2 : Value} (h2 : rep w (strsT 9 x.Done) v2) : reps w (Walk.c tRun x) [v0, v1, v2] := by
 simp only [Walk.c, reps]
 exact ⟨_, _, rfl, h0, ⟨_, _, rfl, h1, ⟨_, _, rfl, h2, rfl⟩⟩⟩
theorem Walk.oopen {tRun : Nat} {w : World} {x : Walk} {vs : List Value} {F : List Nat} (h : owns w (Walk.c tRun x) vs F) : ∃ v0 F0 v1 F1 v2 F2, vs = [v0, v1, v2] ∧ own w (strsT 9 x.State.Roots) v0 F0 ∧ own w (RunsT tRun x.State.Runs) v1 F1 ∧ own w (strsT 9 x.Done) v2 F2 ∧ F = F0 ++ F1 ++ F2 := by
 simp only [Walk.c, owns] at h
 obtain ⟨v0, _, F0, _, rfl, h0, ⟨v1, _, F1, _, rfl, h1, ⟨v2, _, F2, _, rfl, h2, ⟨rfl, rfl⟩, rfl⟩, rfl⟩, rfl⟩ := h
 exact ⟨v0, F0, v1, F1, v2, F2, rfl, h0, h1, h2, by simp⟩
theorem Walk.omk {tRun : Nat} {w : World} (x : Walk) {v0 : Value} {F0 : List Nat} (h0 : own w (strsT 9 x.State.Roots) v0 F0) {v1 : Value} {F1 : List Nat} (h1 : own w (RunsT tRun x.State.Runs) v1 F1) {v2 : Value} {F2 : List Nat} (h2 : own w (strsT 9 x.Done) v2 F2) : owns w (Walk.c tRun x) [v0, v1, v2] (F0 ++ F1 ++ F2) := by
 simp only [Walk.c, owns]
 refine ⟨_, _, F0, F1 ++ F2, rfl, h0, ⟨_, _, F1, F2, rfl, h1, ⟨_, _, F2, [], rfl, h2, ⟨rfl, rfl⟩, by simp⟩, by simp⟩, by simp⟩
theorem Walk.elem {tWalk tRun : Nat} {w : World} {xs : List Walk} {v : Value} (h : rep w (WalksT tWalk tRun xs) v) {i : Nat} (hi : i < xs.length) : ∃ a c v0 v1 v2, v = .slice (some a) xs.length c ∧ w.cell? (a.add (i * 3)) = some (v0) ∧ w.cell? ⟨(a.add (i * 3)).block, (a.add (i * 3)).off + 1, none⟩ = some (v1) ∧ w.cell? ⟨(a.add (i * 3)).block, (a.add (i * 3)).off + 2, none⟩ = some (v2) ∧ rep w (strsT 9 xs[i].State.Roots) v0 ∧ rep w (RunsT tRun xs[i].State.Runs) v1 ∧ rep w (strsT 9 xs[i].Done) v2 ∧ reps w (Walk.c tRun xs[i]) [v0, v1, v2] := by
 obtain ⟨a, c, us, rfl, _, _, hr, hc⟩ := rep_elem h (fun _ => rfl) hi
 have hr0 := hr
 obtain ⟨v0, v1, v2, rfl, h0, h1, h2⟩ := Walk.ropen hr
 exact ⟨a, c, v0, v1, v2, rfl, hc 0 _ rfl, by rw [← add_fld _ _ 1 (by omega)]; exact hc 1 _ rfl, by rw [← add_fld _ _ 2 (by omega)]; exact hc 2 _ rfl, h0, h1, h2, hr0⟩
structure Slot where
 At : Int
 Worker : Int
 Name : ByteArray
 deriving DecidableEq
def zSlot : Slot := ⟨0, 0, ⟨#[]⟩⟩
def Slot.c (x : Slot) : List T := [.i .i64 x.At, .i .i64 x.Worker, .s x.Name]
def SlotsT (tSlot : Nat) (xs : List Slot) : T := tl tSlot 3 Slot.c xs
theorem Slot.ropen {w : World} {x : Slot} {vs : List Value} (h : reps w (Slot.c x) vs) : vs = [.int .i64 x.At, .int .i64 x.Worker, .string x.Name] := by
 simp only [Slot.c, reps, rep] at h
 obtain ⟨v0, _, rfl, h0, ⟨v1, _, rfl, h1, ⟨v2, _, rfl, h2, rfl⟩⟩⟩ := h
 subst h0 h1 h2
 exact rfl
theorem Slot.rmk {w : World} (x : Slot) : reps w (Slot.c x) [.int .i64 x.At, .int .i64 x.Worker, .string x.Name] := by
 simp only [Slot.c, reps]
 exact ⟨_, _, rfl, by simp only [rep], ⟨_, _, rfl, by simp only [rep], ⟨_, _, rfl, by simp only [rep], rfl⟩⟩⟩
theorem Slot.oopen {w : World} {x : Slot} {vs : List Value} {F : List Nat} (h : owns w (Slot.c x) vs F) : vs = [.int .i64 x.At, .int .i64 x.Worker, .string x.Name] ∧ F = [] := by
 simp only [Slot.c, owns] at h
 obtain ⟨v0, _, F0, _, rfl, h0, ⟨v1, _, F1, _, rfl, h1, ⟨v2, _, F2, _, rfl, h2, ⟨rfl, rfl⟩, rfl⟩, rfl⟩, rfl⟩ := h
 simp only [own] at h0 h1 h2
 obtain ⟨rfl, rfl⟩ := h0
 obtain ⟨rfl, rfl⟩ := h1
 obtain ⟨rfl, rfl⟩ := h2
 exact ⟨rfl, by simp⟩
theorem Slot.omk {w : World} (x : Slot) : owns w (Slot.c x) [.int .i64 x.At, .int .i64 x.Worker, .string x.Name] ([]) := by
 simp only [Slot.c, owns]
 exact ⟨_, _, [], _, rfl, own_i _ _ _, ⟨_, _, [], _, rfl, own_i _ _ _, ⟨_, _, [], _, rfl, own_s _ _, ⟨rfl, rfl⟩, rfl⟩, rfl⟩, rfl⟩
theorem Slot.elem {tSlot : Nat} {w : World} {xs : List Slot} {v : Value} (h : rep w (SlotsT tSlot xs) v) {i : Nat} (hi : i < xs.length) : ∃ a c, v = .slice (some a) xs.length c ∧ w.cell? (a.add (i * 3)) = some (.int .i64 xs[i].At) ∧ w.cell? ⟨(a.add (i * 3)).block, (a.add (i * 3)).off + 1, none⟩ = some (.int .i64 xs[i].Worker) ∧ w.cell? ⟨(a.add (i * 3)).block, (a.add (i * 3)).off + 2, none⟩ = some (.string xs[i].Name) ∧ reps w (Slot.c xs[i]) [.int .i64 xs[i].At, .int .i64 xs[i].Worker, .string xs[i].Name] := by
 obtain ⟨a, c, us, rfl, _, _, hr, hc⟩ := rep_elem h (fun _ => rfl) hi
 have hr0 := hr
 obtain rfl := Slot.ropen hr
 exact ⟨a, c, rfl, hc 0 _ rfl, by rw [← add_fld _ _ 1 (by omega)]; exact hc 1 _ rfl, by rw [← add_fld _ _ 2 (by omega)]; exact hc 2 _ rfl, hr0⟩
structure Plan where
 Code : Int
 Slots : List Slot
 Ticks : Int
 Outcome : Outcome
 Chain : List Slot
 deriving DecidableEq
def zPlan : Plan := ⟨0, [], 0, zOutcome, []⟩
def Plan.c (tSlot tResult : Nat) (x : Plan) : List T := [.i .i64 x.Code, SlotsT tSlot x.Slots, .i .i64 x.Ticks, .i .i64 x.Outcome.Code, ResultsT tResult x.Outcome.Results, strsT 9 x.Outcome.Chain, .i .i64 x.Outcome.Units, .i .i64 x.Outcome.Cost, SlotsT tSlot x.Chain]
def PlansT (tPlan tSlot tResult : Nat) (xs : List Plan) : T := tl tPlan 9 (Plan.c tSlot tResult) xs
theorem Plan.ropen {tSlot tResult : Nat} {w : World} {x : Plan} {vs : List Value} (h : reps w (Plan.c tSlot tResult x) vs) : ∃ v1 v4 v5 v8, vs = [.int .i64 x.Code, v1, .int .i64 x.Ticks, .int .i64 x.Outcome.Code, v4, v5, .int .i64 x.Outcome.Units, .int .i64 x.Outcome.Cost, v8] ∧ rep w (SlotsT tSlot x.Slots) v1 ∧ rep w (ResultsT tResult x.Outcome.Results) v4 ∧ rep w (strsT 9 x.Outcome.Chain) v5 ∧ rep w (SlotsT tSlot x.Chain) v8 := by
 simp only [Plan.c, reps] at h
 obtain ⟨v0, _, rfl, h0, ⟨v1, _, rfl, h1, ⟨v2, _, rfl, h2, ⟨v3, _, rfl, h3, ⟨v4, _, rfl, h4, ⟨v5, _, rfl, h5, ⟨v6, _, rfl, h6, ⟨v7, _, rfl, h7, ⟨v8, _, rfl, h8, rfl⟩⟩⟩⟩⟩⟩⟩⟩⟩ := h
 simp only [rep] at h0 h2 h3 h6 h7
 subst h0 h2 h3 h6 h7
 exact ⟨v1, v4, v5, v8, rfl, h1, h4, h5, h8⟩
theorem Plan.rmk {tSlot tResult : Nat} {w : World} (x : Plan) {v1 : Value} (h1 : rep w (SlotsT tSlot x.Slots) v1) {v4 : Value} (h4 : rep w (ResultsT tResult x.Outcome.Results) v4) {v5 : Value} (h5 : rep w (strsT 9 x.Outcome.Chain) v5) {v8 : Value} (h8 : rep w (SlotsT tSlot x.Chain) v8) : reps w (Plan.c tSlot tResult x) [.int .i64 x.Code, v1, .int .i64 x.Ticks, .int .i64 x.Outcome.Code, v4, v5, .int .i64 x.Outcome.Units, .int .i64 x.Outcome.Cost, v8] := by
 simp only [Plan.c, reps]
 exact ⟨_, _, rfl, by simp only [rep], ⟨_, _, rfl, h1, ⟨_, _, rfl, by simp only [rep], ⟨_, _, rfl, by simp only [rep], ⟨_, _, rfl, h4, ⟨_, _, rfl, h5, ⟨_, _, rfl, by simp only [rep], ⟨_, _, rfl, by simp only [rep], ⟨_, _, rfl, h8, rfl⟩⟩⟩⟩⟩⟩⟩⟩⟩
theorem Plan.oopen {tSlot tResult : Nat} {w : World} {x : Plan} {vs : List Value} {F : List Nat} (h : owns w (Plan.c tSlot tResult x) vs F) : ∃ v1 F1 v4 F4 v5 F5 v8 F8, vs = [.int .i64 x.Code, v1, .int .i64 x.Ticks, .int .i64 x.Outcome.Code, v4, v5, .int .i64 x.Outcome.Units, .int .i64 x.Outcome.Cost, v8] ∧ own w (SlotsT tSlot x.Slots) v1 F1 ∧ own w (ResultsT tResult x.Outcome.Results) v4 F4 ∧ own w (strsT 9 x.Outcome.Chain) v5 F5 ∧ own w (SlotsT tSlot x.Chain) v8 F8 ∧ F = F1 ++ F4 ++ F5 ++ F8 := by
 simp only [Plan.c, owns] at h
 obtain ⟨v0, _, F0, _, rfl, h0, ⟨v1, _, F1, _, rfl, h1, ⟨v2, _, F2, _, rfl, h2, ⟨v3, _, F3, _, rfl, h3, ⟨v4, _, F4, _, rfl, h4, ⟨v5, _, F5, _, rfl, h5, ⟨v6, _, F6, _, rfl, h6, ⟨v7, _, F7, _, rfl, h7, ⟨v8, _, F8, _, rfl, h8, ⟨rfl, rfl⟩, rfl⟩, rfl⟩, rfl⟩, rfl⟩, rfl⟩, rfl⟩, rfl⟩, rfl⟩, rfl⟩ := h
 simp only [own] at h0 h2 h3 h6 h7
 obtain ⟨rfl, rfl⟩ := h0
 obtain ⟨rfl, rfl⟩ := h2
 obtain ⟨rfl, rfl⟩ := h3
 obtain ⟨rfl, rfl⟩ := h6
 obtain ⟨rfl, rfl⟩ := h7
 exact ⟨v1, F1, v4, F4, v5, F5, v8, F8, rfl, h1, h4, h5, h8, by simp⟩
theorem Plan.omk {tSlot tResult : Nat} {w : World} (x : Plan) {v1 : Value} {F1 : List Nat} (h1 : own w (SlotsT tSlot x.Slots) v1 F1) {v4 : Value} {F4 : List Nat} (h4 : own w (ResultsT tResult x.Outcome.Results) v4 F4) {v5 : Value} {F5 : List Nat} (h5 : own w (strsT 9 x.Outcome.Chain) v5 F5) {v8 : Value} {F8 : List Nat} (h8 : own w (SlotsT tSlot x.Chain) v8 F8) : owns w (Plan.c tSlot tResult x) [.int .i64 x.Code, v1, .int .i64 x.Ticks, .int .i64 x.Outcome.Code, v4, v5, .int .i64 x.Outcome.Units, .int .i64 x.Outcome.Cost, v8] (F1 ++ F4 ++ F5 ++ F8) := by
 simp only [Plan.c, owns]
 refine ⟨_, _, [], F1 ++ F4 ++ F5 ++ F8, rfl, own_i _ _ _, ⟨_, _, F1, F4 ++ F5 ++ F8, rfl, h1, ⟨_, _, [], F4 ++ F5 ++ F8, rfl, own_i _ _ _, ⟨_, _, [], F4 ++ F5 ++ F8, rfl, own_i _ _ _, ⟨_, _, F4, F5 ++ F8, rfl, h4, ⟨_, _, F5, F8, rfl, h5, ⟨_, _, [], F8, rfl, own_i _ _ _, ⟨_, _, [], F8, rfl, own_i _ _ _, ⟨_, _, F8, [], rfl, h8, ⟨rfl, rfl⟩, by simp⟩, by simp⟩, by simp⟩, by simp⟩, by simp⟩, by simp⟩, by simp⟩, by simp⟩, by simp⟩
theorem Plan.elem {tPlan tSlot tResult : Nat} {w : World} {xs : List Plan} {v : Value} (h : rep w (PlansT tPlan tSlot tResult xs) v) {i : Nat} (hi : i < xs.length) : ∃ a c v1 v4 v5 v8, v = .slice (some a) xs.length c ∧ w.cell? (a.add (i * 9)) = some (.int .i64 xs[i].Code) ∧ w.cell? ⟨(a.add (i * 9)).block, (a.add (i * 9)).off + 1, none⟩ = some (v1) ∧ w.cell? ⟨(a.add (i * 9)).block, (a.add (i * 9)).off + 2, none⟩ = some (.int .i64 xs[i].Ticks) ∧ w.cell? ⟨(a.add (i * 9)).block, (a.add (i * 9)).off + 3, none⟩ = some (.int .i64 xs[i].Outcome.Code) ∧ w.cell? ⟨(a.add (i * 9)).block, (a.add (i * 9)).off + 4, none⟩ = some (v4) ∧ w.cell? ⟨(a.add (i * 9)).block, (a.add (i * 9)).off + 5, none⟩ = some (v5) ∧ w.cell? ⟨(a.add (i * 9)).block, (a.add (i * 9)).off + 6, none⟩ = some (.int .i64 xs[i].Outcome.Units) ∧ w.cell? ⟨(a.add (i * 9)).block, (a.add (i * 9)).off + 7, none⟩ = some (.int .i64 xs[i].Outcome.Cost) ∧ w.cell? ⟨(a.add (i * 9)).block, (a.add (i * 9)).off + 8, none⟩ = some (v8) ∧ rep w (SlotsT tSlot xs[i].Slots) v1 ∧ rep w (ResultsT tResult xs[i].Outcome.Results) v4 ∧ rep w (strsT 9 xs[i].Outcome.Chain) v5 ∧ rep w (SlotsT tSlot xs[i].Chain) v8 ∧ reps w (Plan.c tSlot tResult xs[i]) [.int .i64 xs[i].Code, v1, .int .i64 xs[i].Ticks, .int .i64 xs[i].Outcome.Code, v4, v5, .int .i64 xs[i].Outcome.Units, .int .i64 xs[i].Outcome.Cost, v8] := by
 obtain ⟨a, c, us, rfl, _, _, hr, hc⟩ := rep_elem h (fun _ => rfl) hi
 have hr0 := hr
 obtain ⟨v1, v4, v5, v8, rfl, h1, h4, h5, h8⟩ := Plan.ropen hr
 exact ⟨a, c, v1, v4, v5, v8, rfl, hc 0 _ rfl, by rw [← add_fld _ _ 1 (by omega)]; exact hc 1 _ rfl, by rw [← add_fld _ _ 2 (by omega)]; exact hc 2 _ rfl, by rw [← add_fld _ _ 3 (by omega)]; exact hc 3 _ rfl, by rw [← add_fld _ _ 4 (by omega)]; exact hc 4 _ rfl, by rw [← add_fld _ _ 5 (by omega)]; exact hc 5 _ rfl, by rw [← add_fld _ _ 6 (by omega)]; exact hc 6 _ rfl, by rw [← add_fld _ _ 7 (by omega)]; exact hc 7 _ rfl, by rw [← add_fld _ _ 8 (by omega)]; exact hc 8 _ rfl, h1, h4, h5, h8, hr0⟩
theorem str_elem {t : Nat} {w : World} {xs : List ByteArray} {v : Value} (h : rep w (strsT t xs) v) {i : Nat} (hi : i < xs.length) : ∃ a c, v = .slice (some a) xs.length c ∧ w.cell? (a.add i) = some (.string xs[i]) := by
 obtain ⟨a, c, us, rfl, _, _, hr, hc⟩ := rep_elem h (fun _ => rfl) hi
 simp only [strC, intC, byteC, reps, rep] at hr
 obtain ⟨_, _, rfl, rfl, rfl⟩ := hr
 exact ⟨a, c, rfl, by have := hc 0 _ rfl; rwa [Nat.mul_one, Nat.add_zero] at this⟩
theorem int_elem {t : Nat} {w : World} {xs : List Int} {v : Value} (h : rep w (intsT t xs) v) {i : Nat} (hi : i < xs.length) : ∃ a c, v = .slice (some a) xs.length c ∧ w.cell? (a.add i) = some (.int .i64 xs[i]) := by
 obtain ⟨a, c, us, rfl, _, _, hr, hc⟩ := rep_elem h (fun _ => rfl) hi
 simp only [strC, intC, byteC, reps, rep] at hr
 obtain ⟨_, _, rfl, rfl, rfl⟩ := hr
 exact ⟨a, c, rfl, by have := hc 0 _ rfl; rwa [Nat.mul_one, Nat.add_zero] at this⟩
theorem byte_elem {t : Nat} {w : World} {xs : List UInt8} {v : Value} (h : rep w (bytesT t xs) v) {i : Nat} (hi : i < xs.length) : ∃ a c, v = .slice (some a) xs.length c ∧ w.cell? (a.add i) = some (.int .u8 xs[i].toNat) := by
 obtain ⟨a, c, us, rfl, _, _, hr, hc⟩ := rep_elem h (fun _ => rfl) hi
 simp only [strC, intC, byteC, reps, rep] at hr
 obtain ⟨_, _, rfl, rfl, rfl⟩ := hr
 exact ⟨a, c, rfl, by have := hc 0 _ rfl; rwa [Nat.mul_one, Nat.add_zero] at this⟩
end Go.Proofs.YtkpkfihaihoaeaaGreatDoor.M
end
section
set_option linter.unusedVariables false
set_option linter.unusedSimpArgs false
namespace Go.Proofs.YtkpkfihaihoaeaaGreatDoor.M
open Go.RowKit
def inB (a b c : Int) : Bool := decide (b ≤ a ∧ a ≤ c)
def okB (x : UInt8) : Bool := !(x < 33 || x > 126 || x == 44)
def nameOk (s : ByteArray) : Bool := inB s.size 1 20 && !(s.toList == [45]) && s.data.toList.all okB
def namesOk (l : List ByteArray) : Bool := l.all nameOk && decide l.Nodup
def caseOk (n : Int) (c : Case) : Bool := decide (c.Text.size ≤ 200) && inB c.Goto 0 (n - 1)
def endOk (s : Step) : Bool := decide (s.Give.size ≤ 30) && s.Asks.isEmpty && s.On == 0 && s.Cases.isEmpty && s.Else == 0 && s.Fall == 0
def preOk (s : Step) (n : Int) : Bool := !s.Bad && s.Give.toList.isEmpty && decide (s.Asks.length ≤ 5) && decide (s.Cases.length ≤ 5) && inB s.Else 0 (n - 1) && inB s.Fall (-1) (n - 1)
def onOk (s : Step) : Bool := if s.Asks.isEmpty then s.On == 0 else inB s.On 0 (s.Asks.length - 1)
def stepOk (s : Step) (n : Int) : Bool := if s.End then endOk s else preOk s n && namesOk s.Asks && onOk s && s.Cases.all (caseOk n)
def stepOkN (n : Nat) (s : Step) : Bool := stepOk s n
def actionOk (a : Action) : Bool := inB a.Cost 1 20 && inB a.Steps.length 1 20 && a.Steps.all (stepOkN a.Steps.length)
/-- the texts of a step, an action are no longer than a size can tell -/
def Step.Sm (s : Step) : Prop := s.Give.size ≤ 9223372036854775807
def Action.Sm (a : Action) : Prop := ∀ s ∈ a.Steps, s.Sm

theorem str_get (s : ByteArray) (k : Nat) (h : k < s.size) : s.data.toList.drop k = s[k] :: s.data.toList.drop (k + 1) := by
 rw [List.drop_eq_getElem_cons (by simpa using h)]; rfl
theorem str_take (s : ByteArray) (k : Nat) (h : k < s.size) : s.data.toList.take (k + 1) = s.data.toList.take k ++ [s[k]] := by
 rw [List.take_succ_eq_append_getElem (by simpa using h)]; rfl
theorem okB_iff (x : UInt8) : okB x = true ↔ 33 ≤ (x.toNat : Int) ∧ (x.toNat : Int) ≤ 126 ∧ ((x.toNat : Int) == 44) = false := by
 have h : (x == 44) = ((x.toNat : Int) == 44) := by rw [Bool.eq_iff_iff]; simp [← UInt8.toNat_inj]; omega
 simp only [okB, h, Bool.not_eq_true', Bool.or_eq_false_iff, decide_eq_false_iff_not, UInt8.lt_iff_toNat_lt, UInt8.toNat_ofNat, GT.gt]
 constructor
 ·rintro ⟨⟨h1, h2⟩, h3⟩
  exact ⟨by simp at h1; omega, by simp at h2; omega, h3⟩
 ·rintro ⟨h1, h2, h3⟩
  exact ⟨⟨by simp; omega, by simp; omega⟩, h3⟩
theorem okB_not (x : UInt8) (h : ((x.toNat : Int) < 33 ∨ 126 < (x.toNat : Int)) ∨ (x.toNat : Int) = 44) : okB x = false := by
 rw [Bool.eq_false_iff]; intro hk; obtain ⟨a, b, c⟩ := (okB_iff x).1 hk
 have c := beq_eq_false_iff_ne.1 c
 omega
def okTo (s : ByteArray) (k : Nat) : Prop := (s.data.toList.take k).all okB = true
theorem okTo_succ (s : ByteArray) (k : Nat) (h : k < s.size) (hA : okTo s k) (hx : okB s[k] = true) : okTo s (k + 1) := by
 unfold okTo at *; rw [str_take s k h, List.all_append, hA]; simp [hx]
theorem okTo_all (s : ByteArray) (h : okTo s s.size) : s.data.toList.all okB = true := by
 unfold okTo at h; rwa [List.take_of_length_le (by simp)] at h
theorem all_not (s : ByteArray) (k : Nat) (h : k < s.size) (hx : okB s[k] = false) : s.data.toList.all okB = false := by
 rw [← List.take_append_drop k s.data.toList, str_get s k h, List.all_append, List.all_cons, hx]; simp
theorem Hid.mk' {p : Prop} (h : p) : Hid p := h
theorem ba_eq (a b : ByteArray) : (a.toList == b.toList) = true ↔ a = b := by
 rw [beq_iff_eq]
 constructor
 ·intro h
  rw [ByteArray.toList_eq, ByteArray.toList_eq] at h
  exact ByteArray.ext (Array.toList_inj.mp h)
 ·rintro rfl; rfl
def notTo (xs : List ByteArray) (x : ByteArray) (k : Nat) : Prop := ∀ (i : Nat) (h : i < xs.length), i < k → xs[i] ≠ x
theorem notTo_zero (xs : List ByteArray) (x : ByteArray) : notTo xs x 0 := fun i _ h => absurd h (Nat.not_lt_zero _)
theorem notTo_succ {xs : List ByteArray} {x : ByteArray} {k : Nat} (h : notTo xs x k) (hk : k < xs.length) (hx : ¬(x.toList == xs[k].toList) = true) : notTo xs x (k + 1) := by
 intro i hl hi
 rcases Nat.lt_succ_iff_lt_or_eq.1 hi with hi | rfl
 ·exact h i hl hi
 ·intro e; exact hx ((ba_eq _ _).2 e.symm)
theorem notTo_end {xs : List ByteArray} {x : ByteArray} (h : notTo xs x xs.length) : x ∉ xs := by
 intro hx
 obtain ⟨i, hi, rfl⟩ := List.getElem_of_mem hx
 exact h i hi hi rfl
theorem mem_at {xs : List ByteArray} {x : ByteArray} {k : Nat} (hk : k < xs.length) (hx : (x.toList == xs[k].toList) = true) : x ∈ xs := by
 have hx := (ba_eq _ _).1 hx
 exact hx ▸ List.getElem_mem hk
/-- the names up to a place are names, no two the same -/
def nmTo (xs : List ByteArray) (k : Nat) : Prop := ∀ (i : Nat) (h : i < xs.length), i < k → nameOk xs[i] = true ∧ xs[i] ∉ xs.take i
theorem nmTo_zero (xs : List ByteArray) : nmTo xs 0 := fun i _ h => absurd h (Nat.not_lt_zero _)
theorem nmTo_succ {xs : List ByteArray} {k : Nat} (h : nmTo xs k) (hk : k < xs.length) (h1 : nameOk xs[k] = true) (h2 : xs[k] ∉ xs.take k) : nmTo xs (k + 1) := by
 intro i hl hi
 rcases Nat.lt_succ_iff_lt_or_eq.1 hi with hi | rfl
 ·exact h i hl hi
 ·exact ⟨h1, h2⟩
theorem namesOk_iff (xs : List ByteArray) : namesOk xs = true ↔ nmTo xs xs.length := by
 unfold namesOk nmTo
 simp only [Bool.and_eq_true, List.all_eq_true, decide_eq_true_eq]
 constructor
 ·rintro ⟨h1, h2⟩ i hl _
  refine ⟨h1 _ (List.getElem_mem hl), fun hm => ?_⟩
  obtain ⟨j, hj, e⟩ := List.getElem_of_mem hm
  have hj' : j < i := by simp at hj; omega
  rw [List.getElem_take] at e
  have := (List.getElem_inj h2 (i := j) (j := i) (h₀ := by omega) (h₁ := hl)).1 e
  omega
 ·intro h
  refine ⟨fun x hx => ?_, ?_⟩
  ·obtain ⟨i, hi, rfl⟩ := List.getElem_of_mem hx
   exact (h i hi hi).1
  ·rw [List.nodup_iff_pairwise_ne, List.pairwise_iff_getElem]
   intro i j hi hj hij e
   refine (h j hj hj).2 ?_
   rw [← e]
   exact List.mem_take_iff_getElem.2 ⟨i, by omega, rfl⟩
theorem namesOk_not {xs : List ByteArray} {k : Nat} (hk : k < xs.length) (h : nameOk xs[k] = false ∨ xs[k] ∈ xs.take k) : namesOk xs = false := by
 rw [Bool.eq_false_iff]
 intro hn
 obtain ⟨h1, h2⟩ := (namesOk_iff xs).1 hn k hk hk
 rcases h with h | h
 ·rw [h] at h1; cases h1
 ·exact h2 h
/-- the elements up to a place are good -/
def allTo {α : Type} (p : α → Bool) (xs : List α) (k : Nat) : Prop := (xs.take k).all p = true
theorem allTo_zero {α : Type} (p : α → Bool) (xs : List α) : allTo p xs 0 := by simp [allTo]
theorem allTo_succ {α : Type} {p : α → Bool} {xs : List α} {k : Nat} (h : allTo p xs k) (hk : k < xs.length) (hp : p xs[k] = true) : allTo p xs (k + 1) := by
 unfold allTo at *
 rw [List.take_succ_eq_append_getElem hk, List.all_append, h]; simp [hp]
theorem allTo_end {α : Type} {p : α → Bool} {xs : List α} (h : allTo p xs xs.length) : xs.all p = true := by
 unfold allTo at h; rwa [List.take_length] at h
theorem allTo_not {α : Type} {p : α → Bool} {xs : List α} {k : Nat} (hk : k < xs.length) (hp : p xs[k] = false) : xs.all p = false := by
 rw [List.all_eq_false]; exact ⟨_, List.getElem_mem hk, by simp [hp]⟩
theorem preOk_iff {s : Step} {n : Int} (h : preOk s n = true) : s.Bad = false ∧ s.Give.toList = [] ∧ s.Asks.length ≤ 5 ∧ s.Cases.length ≤ 5 ∧ inB s.Else 0 (n - 1) = true ∧ inB s.Fall (-1) (n - 1) = true := by
 simp [preOk] at h; obtain ⟨⟨⟨⟨⟨h1, h2⟩, h3⟩, h4⟩, h5⟩, h6⟩ := h; exact ⟨h1, h2, h3, h4, h5, h6⟩
theorem stepOk_pre {s : Step} {n : Int} (hE : s.End = false) (h : ¬preOk s n = true) : stepOk s n = false := by simp [stepOk, hE, h]
theorem stepOk_names {s : Step} {n : Int} (hE : s.End = false) (h : namesOk s.Asks = false) : stepOk s n = false := by simp [stepOk, hE, h]
theorem stepOk_on {s : Step} {n : Int} (hE : s.End = false) (h : onOk s = false) : stepOk s n = false := by simp [stepOk, hE, h]
theorem stepOk_cases {s : Step} {n : Int} (hE : s.End = false) (h : s.Cases.all (caseOk n) = false) : stepOk s n = false := by simp only [stepOk, hE, h]; simp
theorem stepOk_yes {s : Step} {n : Int} (hE : s.End = false) (h1 : preOk s n = true) (h2 : namesOk s.Asks = true) (h3 : onOk s = true) (h4 : s.Cases.all (caseOk n) = true) : stepOk s n = true := by simp only [stepOk, hE, h1, h2, h3, h4]; simp
/-- the element at a place is none of those up to another -/
def nqTo (xs : List ByteArray) (i k : Nat) : Prop := ∀ (j : Nat) (h : j < xs.length) (hi : i < xs.length), j < k → xs[j] ≠ xs[i]
theorem nqTo_zero (xs : List ByteArray) (i : Nat) : nqTo xs i 0 := fun j _ _ h => absurd h (Nat.not_lt_zero _)
theorem nqTo_succ {xs : List ByteArray} {i k : Nat} (h : nqTo xs i k) (hk : k < xs.length) (hi : i < xs.length) (hx : (xs[k].toList == xs[i].toList) = false) : nqTo xs i (k + 1) := by
 intro j hj hi' hjk
 rcases Nat.lt_succ_iff_lt_or_eq.1 hjk with hjk | rfl
 ·exact h j hj hi' hjk
 ·intro e; rw [(ba_eq _ _).2 e] at hx; cases hx
theorem nqTo_end {xs : List ByteArray} {i : Nat} (h : nqTo xs i i) (hi : i < xs.length) : xs[i] ∉ xs.take i := by
 intro hm
 obtain ⟨j, hj, e⟩ := List.getElem_of_mem hm
 have hj' : j < i := by simp at hj; omega
 rw [List.getElem_take] at e
 exact h j (by omega) hi hj' e
theorem mem_take {xs : List ByteArray} {i k : Nat} (hi : i < xs.length) (hk : k < i) (hx : (xs[k].toList == xs[i].toList) = true) : xs[i] ∈ xs.take i := by
 rw [← (ba_eq _ _).1 hx]; exact List.mem_take_iff_getElem.2 ⟨k, by omega, rfl⟩
end Go.Proofs.YtkpkfihaihoaeaaGreatDoor.M
end
section
set_option linter.unusedVariables false
set_option linter.unusedSimpArgs false
namespace Go.Proofs.YtkpkfihaihoaeaaGreatDoor.M
open Go.RowKit

def szI (b : Nat) (left : Int) : Int := if (b : Int) ≤ left then left - b else -1
theorem szI_yes {b : Nat} {left : Int} (h : (b : Int) ≤ left) : szI b left = left - b := if_pos h
theorem szI_no {b : Nat} {left : Int} (h : ¬(b : Int) ≤ left) : szI b left = -1 := if_neg h
def sumTo {α : Type} (f : α → Nat) (xs : List α) (k : Nat) : Nat := ((xs.take k).map f).sum
theorem sumTo_zero {α : Type} (f : α → Nat) (xs : List α) : sumTo f xs 0 = 0 := by simp [sumTo]
theorem sumTo_succ {α : Type} (f : α → Nat) (xs : List α) (k : Nat) (h : k < xs.length) : sumTo f xs (k + 1) = sumTo f xs k + f xs[k] := by
 unfold sumTo; rw [List.take_succ_eq_append_getElem h, List.map_append, List.sum_append]; simp
theorem sumTo_end {α : Type} (f : α → Nat) (xs : List α) : sumTo f xs xs.length = (xs.map f).sum := by simp [sumTo]
theorem sumTo_le {α : Type} (f : α → Nat) (xs : List α) (k : Nat) (h : k < xs.length) : sumTo f xs k + f xs[k] ≤ (xs.map f).sum := by
 rw [← sumTo_succ f xs k h, ← List.take_append_drop (k + 1) (xs.map f), List.sum_append, ← List.map_take]; unfold sumTo; omega
def bsOf {α : Type} (f : α → Nat) (xs : List α) : Nat := xs.length + (xs.map f).sum
def szTo {α : Type} (f : α → Nat) (xs : List α) (left : Int) (k : Nat) (L : Int) : Prop := left = L + xs.length + sumTo f xs k
theorem szTo_zero {α : Type} (f : α → Nat) (xs : List α) (left : Int) : szTo f xs left 0 (left - xs.length) := by unfold szTo; rw [sumTo_zero]; omega
theorem szTo_succ {α : Type} {f : α → Nat} {xs : List α} {left L : Int} {k : Nat} (h : szTo f xs left k L) (hk : k < xs.length) : szTo f xs left (k + 1) (L - f xs[k]) := by unfold szTo at *; rw [sumTo_succ f xs k hk]; omega
theorem szTo_no {α : Type} {f : α → Nat} {xs : List α} {left L : Int} {k : Nat} (h : szTo f xs left k L) (hk : k < xs.length) (hn : ¬(f xs[k] : Int) ≤ L) : szI (bsOf f xs) left = -1 := by
 have := sumTo_le f xs k hk; unfold szTo at h; exact szI_no (by unfold bsOf; omega)
theorem szTo_end {α : Type} {f : α → Nat} {xs : List α} {left L : Int} (h : szTo f xs left xs.length L) (h0 : 0 ≤ L) : szI (bsOf f xs) left = L := by
 unfold szTo at h; rw [sumTo_end] at h; rw [szI_yes (by unfold bsOf; omega)]; unfold bsOf; omega
def bkS (xs : List ByteArray) : Nat := bsOf ByteArray.size xs
def SmS (xs : List ByteArray) : Prop := ∀ x ∈ xs, x.size ≤ 9223372036854775807
set_option maxHeartbeats 1000000 in
theorem szStringS_calls {t : Nat} (xs : List ByteArray) (left : Int) (v : Value) (w : World) (h : rep w (strsT t xs) v) (g0 : 0 ≤ left) (g1 : left ≤ 1048576) (hz : SmS xs) :
  Calls Tryz.prog 23 #[v, .int .i64 left] w fun e w' => e = .returned (.int .i64 (szI (bkS xs) left)) ∧ Below w.heap.size w w' := by
 obtain ⟨A, c, rfl, hc, hn⟩ := rep_len h
 have h := Asd.mk h
 by_cases q0 : (xs.length : Int) ≤ left
 rotate_left
 ·have e1 := Hid.mk' (show szI (bkS xs) left = -1 from szI_no (by unfold bkS bsOf; omega))
  go_enter Tryz.func23, Tryz.ntmps23
  go_wp2
  go_ret
  exact ⟨by rw [e1.out]; rfl, Below.refl _ _⟩
 go_enter Tryz.func23, Tryz.ntmps23
 go_wp2
 go_loop [1, 5] (fun l i => ∃ (k : Nat) (L : Int), k ≤ xs.length ∧ i = .int .i64 k ∧ l = .int .i64 L ∧ 0 ≤ L ∧ L ≤ 1048576 ∧ szTo ByteArray.size xs left k L) (fun _ i => xs.length - (intOf i).toNat)
 case atStart => exact ⟨0, _, by omega, rfl, rfl, by omega, by omega, szTo_zero _ _ _⟩
 case round =>
  obtain ⟨k, L, hk, rfl, rfl, hL0, hL1, hA⟩ := hrel
  by_cases hlt : k < xs.length
  ·obtain ⟨a, c', he, hcell⟩ := str_elem h.out hlt
   cases he
   have hsm := hz _ (List.getElem_mem hlt)
   by_cases q1 : (xs[k].size : Int) ≤ L
   ·have e1 := szTo_succ hA hlt
    go_wp2
    go_round
    case rel => exact ⟨k + 1, _, by omega, by go_num, rfl, by omega, by omega, e1⟩
    case measure => simp [intOf]; omega
   ·have e1 := Hid.mk' (szTo_no hA hlt q1)
    go_wp2
    go_ret
    exact ⟨by rw [bkS, e1.out]; rfl, Below.refl _ _⟩
  ·obtain rfl : k = xs.length := by omega
   have e1 := Hid.mk' (szTo_end hA hL0)
   go_wp2
   go_ret
   exact ⟨by rw [bkS, e1.out]; rfl, Below.refl _ _⟩
end Go.Proofs.YtkpkfihaihoaeaaGreatDoor.M
end
section
set_option linter.unusedVariables false
set_option linter.unusedSimpArgs false
namespace Go.Proofs.YtkpkfihaihoaeaaGreatDoor.M
open Go.RowKit Go.ChangeShapes Go.WideShapes

/-- Whatever reads at type t is the cells of some datum. -/
def Rd {α : Type} (t : TypeId) (sz : Nat) (enc : α → List T) (ok : α → Prop) : Prop :=
 Tryz.prog.cellsOf t = sz ∧ ∀ {H : Type} (en : TypeId × Value → H) (W : World) (fuel : Nat) (cs : List Value) (x : DataW H × List MemPlace), DataW.trod en Tryz.prog W 0 (fun _ => true) true fuel t cs = some x → ∃ y : α, reps W (enc y) cs ∧ ok y
def boolC (x : Bool) : List T := [.b x]
theorem rd_int (t : TypeId) (h : Tryz.prog.underlying t = some (.int .i64)) (hc : Tryz.prog.cellsOf t = 1) : Rd t 1 intC (fun x => -9223372036854775808 ≤ x ∧ x ≤ 9223372036854775807) := by
 refine ⟨hc, fun en W fuel cs x hx => ?_⟩
 obtain ⟨n, rfl, rfl, hw⟩ := DataW.trod_int h hx
 refine ⟨n, by simp only [intC, reps]; exact ⟨_, _, rfl, by simp only [rep], rfl⟩, ?_⟩
 exact bounds_i64 hw
theorem rd_bool (t : TypeId) (h : Tryz.prog.underlying t = some .bool) (hc : Tryz.prog.cellsOf t = 1) : Rd t 1 boolC (fun _ => True) := by
 refine ⟨hc, fun en W fuel cs x hx => ?_⟩
 obtain ⟨n, rfl, rfl⟩ := DataW.trod_bool h hx
 exact ⟨n, by simp only [boolC, reps]; exact ⟨_, _, rfl, by simp only [rep], rfl⟩, trivial⟩
theorem rd_str (t : TypeId) (h : Tryz.prog.underlying t = some .string) (hc : Tryz.prog.cellsOf t = 1) : Rd t 1 strC (fun x => x.size ≤ 9223372036854775807) := by
 refine ⟨hc, fun en W fuel cs x hx => ?_⟩
 obtain ⟨n, rfl, rfl, hw⟩ := DataW.trod_string h hx
 exact ⟨n, by simp only [strC, reps]; exact ⟨_, _, rfl, by simp only [rep], rfl⟩, by simpa [maxLen] using hw⟩
theorem cells_at {W : World} {a : Addr} : ∀ {n : Nat} {cs : List Value}, W.cells? 0 a n = some cs → cs.length = n ∧ ∀ q u, cs[q]? = some u → W.cell? (a.add q) = some u := by
 intro n cs h
 unfold World.cells? at h
 rw [if_pos (Nat.zero_le _)] at h
 have hl : cs.length = n := by simpa using mapM_some_length h
 refine ⟨hl, fun q u hq => ?_⟩
 have hqn : q < n := by rw [← hl]; exact (List.getElem?_eq_some_iff.1 hq).1
 have := mapM_some_get h q q (by simp [hqn])
 rw [hq] at this
 exact this
theorem reps_flat {W : World} {α : Type} {enc : α → List T} : ∀ (n : Nat) (V : Nat → List Value) (Y : Nat → α), (∀ i, i < n → reps W (enc (Y i)) (V i)) → reps W (((List.range n).map Y).flatMap enc) ((List.range n).flatMap V)
 | 0, _, _, _ => by simp [reps]
 | n + 1, V, Y, h => by
  rw [List.range_succ, List.map_append, List.flatMap_append, List.flatMap_append]
  refine reps_append (reps_flat n V Y (fun i hi => h i (by omega))) ?_
  simpa using h n (by omega)
theorem rd_slice {α : Type} {t e : TypeId} {sz : Nat} {enc : α → List T} {ok : α → Prop} (d : α) (h : Tryz.prog.underlying t = some (.slice e)) (hc : Tryz.prog.cellsOf t = 1) (he : Rd e sz enc ok) (hf : ∀ x, (enc x).length = sz) (hsz : 0 < sz) :
  Rd t 1 (fun xs : List α => [tl e sz enc xs]) (fun xs => ∀ x ∈ xs, ok x) := by
 refine ⟨hc, fun en W fuel cs x hx => ?_⟩
 rcases Go.Deep.open_slice h hx with ⟨rfl, rfl⟩ | ⟨a, len, cap, m, n, D, Pl, rfl, hb, hl, hm, hmm, rfl, hxx⟩
 ·refine ⟨[], ?_, by simp⟩
  simp only [reps]
  refine ⟨_, _, rfl, ?_, rfl⟩
  simp only [tl, rep]
  exact ⟨by simp, by simp, none, 0, [], rfl, by simp, by simp [reps], fun h => by simp at h⟩
 ·have hmm' : len ≤ m := by rw [hmm]; simp; exact hl
  have key : ∀ i, ∃ p : α × List Value, i < len → reps W (enc p.1) p.2 ∧ ok p.1 ∧ p.2.length = sz ∧ ∀ q u, p.2[q]? = some u → W.cell? ((a.add (i * sz)).add q) = some u := by
   intro i
   by_cases hi : i < len
   ·obtain ⟨cs', h1, h2⟩ := hxx i (by omega)
    rw [he.1] at h1
    obtain ⟨hl1, hc1⟩ := cells_at h1
    obtain ⟨y, hy, hk⟩ := he.2 en W n cs' _ h2
    exact ⟨(y, cs'), fun _ => ⟨hy, hk, hl1, hc1⟩⟩
   ·exact ⟨(d, []), fun h => absurd h hi⟩
  obtain ⟨f, hf1⟩ := Classical.axiomOfChoice key
  have hlen : ((List.range len).map fun i => (f i).1).length = len := by simp
  refine ⟨(List.range len).map fun i => (f i).1, ?_, fun x hx => ?_⟩
  ·simp only [reps]
   refine ⟨_, _, rfl, ?_, rfl⟩
   simp only [tl, rep]
   have hr := reps_flat (enc := enc) len (fun i => (f i).2) (fun i => (f i).1) (fun i hi => (hf1 i hi).1)
   refine ⟨length_flatMap enc sz hf _, by rw [hlen]; simp only [maxLen] at hm; omega, some a, cap, (List.range len).flatMap (fun i => (f i).2), by rw [hlen], by rw [hlen]; exact hl, hr, fun _ => ⟨a, rfl, ?_⟩⟩
   have flat : ∀ (n : Nat), n ≤ len → ∀ j u, ((List.range n).flatMap (fun i => (f i).2))[j]? = some u → W.cell? (a.add j) = some u := by
    intro n
    induction n with
    | zero => intro _ j u hj; simp at hj
    | succ n ih =>
     intro hn j u hj
     rw [List.range_succ, List.flatMap_append] at hj
     have hl2 : ((List.range n).flatMap (fun i => (f i).2)).length = n * sz := by
      have := reps_length (reps_flat (enc := enc) n (fun i => (f i).2) (fun i => (f i).1) (fun i hi => (hf1 i (by omega)).1))
      rw [this, length_flatMap enc sz hf]; simp
     by_cases hjn : j < n * sz
     ·rw [List.getElem?_append_left (by omega)] at hj
      exact ih (by omega) j u hj
     ·rw [List.getElem?_append_right (by omega), hl2] at hj
      have := (hf1 n (by omega)).2.2.2 (j - n * sz) u (by simpa using hj)
      rw [Go.Deep.add_add, show n * sz + (j - n * sz) = j by omega] at this
      exact this
   exact flat len (Nat.le_refl _)
  ·obtain ⟨i, hi, rfl⟩ := List.mem_map.1 hx
   exact (hf1 i (List.mem_range.1 hi)).2.1

end Go.Proofs.YtkpkfihaihoaeaaGreatDoor.M
end
section
set_option linter.unusedVariables false
set_option linter.unusedSimpArgs false
namespace Go.Proofs.YtkpkfihaihoaeaaGreatDoor.M
open Go.RowKit Go.ChangeShapes Go.WideShapes

theorem rdStrs : Rd 25 1 (fun xs => [strsT 9 xs]) SmS := rd_slice ByteArray.empty Tryz.underlying25 (by kernel_rfl) (rd_str 9 Tryz.underlying9 (by kernel_rfl)) (fun _ => rfl) (by decide)
theorem rdInt : Rd 3 1 intC (fun x => -9223372036854775808 ≤ x ∧ x ≤ 9223372036854775807) := rd_int 3 Tryz.underlying3 (by kernel_rfl)
theorem rdBool : Rd 4 1 boolC (fun _ => True) := rd_bool 4 Tryz.underlying4 (by kernel_rfl)
theorem rdString : Rd 9 1 strC (fun x => x.size ≤ 9223372036854775807) := rd_str 9 Tryz.underlying9 (by kernel_rfl)
end Go.Proofs.YtkpkfihaihoaeaaGreatDoor.M
end
section
set_option linter.unusedVariables false
set_option linter.unusedSimpArgs false
namespace Go.Proofs.YtkpkfihaihoaeaaGreatDoor.M
open Go.RowKit

theorem in_calls (a b c : Int) (w : World) : Calls Tryz.prog 118 #[.int .i64 a, .int .i64 b, .int .i64 c] w fun e w' => e = .returned (.bool (inB a b c)) ∧ w = w' := by
 go_enter Tryz.func118, Tryz.ntmps118
 go_wp2
 all_goals (go_ret; first | exact ⟨by simp [*, inB]; try omega, rfl⟩)
theorem l1In_calls (a b c : Int) (w : World) : Calls Tryz.prog 113 #[.int .i64 a, .int .i64 b, .int .i64 c] w fun e w' => e = .returned (.bool (inB a b c)) ∧ w = w' := by
 go_enter Tryz.func113, Tryz.ntmps113
 go_wp2
 all_goals (go_ret; first | exact ⟨by simp [*, inB]; try omega, rfl⟩)

theorem goodName_calls (s : ByteArray) (w : World) : Calls Tryz.prog 143 #[.string s] w fun e w' => e = .returned (.bool (nameOk s)) ∧ w = w' := by
  by_cases h1 : inB s.size 1 20 = true
  rotate_left
  · go_enter Tryz.func143, Tryz.ntmps143
    go_wp2_with (first | (go_at_call 118; refine (in_calls _ _ _ _).mono ?_; rintro e w' ⟨rfl, rfl⟩))
    go_ret
    exact ⟨by simp [nameOk, *], rfl⟩
  have hz : s.size ≤ 20 := by simp [inB] at h1; omega
  go_enter Tryz.func143, Tryz.ntmps143
  go_wp2_with (first | (go_at_call 118; refine (in_calls _ _ _ _).mono ?_; rintro e w' ⟨rfl, rfl⟩))
  · go_ret
    exact ⟨by simp [nameOk, *], rfl⟩
  go_loop [3] (fun i => ∃ k : Nat, k ≤ s.size ∧ i = .int .i64 k ∧ okTo s k) (fun i => s.size - (intOf i).toNat)
  case atStart => exact ⟨0, by omega, rfl, by simp [okTo]⟩
  case round =>
    obtain ⟨k, hk, rfl, hA⟩ := hrel
    by_cases hlt : k < s.size
    · go_wp2
      all_goals first
        | (go_ret; refine ⟨?_, rfl⟩; rw [nameOk, all_not s k hlt (okB_not _ (by first | assumption | (simp_all; done) | omega))]; simp)
        | (go_round; case rel => exact ⟨k + 1, by omega, by go_num, okTo_succ s k hlt hA ((okB_iff _).2 (by simp_all))⟩
           case measure => simp [intOf]; omega)
    · go_wp2
      go_ret
      obtain rfl : k = s.size := by omega
      exact ⟨by rw [nameOk, okTo_all s hA]; simp [*], rfl⟩
theorem l1NameOk_calls (s : ByteArray) (w : World) : Calls Tryz.prog 129 #[.string s] w fun e w' => e = .returned (.bool (nameOk s)) ∧ w = w' := by
  by_cases h1 : inB s.size 1 20 = true
  rotate_left
  · go_enter Tryz.func129, Tryz.ntmps129
    go_wp2_with (first | (go_at_call 113; refine (l1In_calls _ _ _ _).mono ?_; rintro e w' ⟨rfl, rfl⟩))
    go_ret
    exact ⟨by simp [nameOk, *], rfl⟩
  have hz : s.size ≤ 20 := by simp [inB] at h1; omega
  go_enter Tryz.func129, Tryz.ntmps129
  go_wp2_with (first | (go_at_call 113; refine (l1In_calls _ _ _ _).mono ?_; rintro e w' ⟨rfl, rfl⟩))
  · go_ret
    exact ⟨by simp [nameOk, *], rfl⟩
  go_loop [3] (fun i => ∃ k : Nat, k ≤ s.size ∧ i = .int .i64 k ∧ okTo s k) (fun i => s.size - (intOf i).toNat)
  case atStart => exact ⟨0, by omega, rfl, by simp [okTo]⟩
  case round =>
    obtain ⟨k, hk, rfl, hA⟩ := hrel
    by_cases hlt : k < s.size
    · go_wp2
      all_goals first
        | (go_ret; refine ⟨?_, rfl⟩; rw [nameOk, all_not s k hlt (okB_not _ (by first | assumption | (simp_all; done) | omega))]; simp)
        | (go_round; case rel => exact ⟨k + 1, by omega, by go_num, okTo_succ s k hlt hA ((okB_iff _).2 (by simp_all))⟩
           case measure => simp [intOf]; omega)
    · go_wp2
      go_ret
      obtain rfl : k = s.size := by omega
      exact ⟨by rw [nameOk, okTo_all s hA]; simp [*], rfl⟩

def PosIff (p : Prop) (e : Ending) : Prop := ∃ r : Int, e = .returned (.int .i64 r) ∧ (0 ≤ r ↔ p)
theorem Index_calls {ts : Nat} (xs : List ByteArray) (x : ByteArray) (v : Value) (w : World) (h : rep w (strsT ts xs) v) :
  Calls Tryz.prog 182 #[v, .string x] w fun e w' => PosIff (x ∈ xs) e ∧ w = w' := by
 obtain ⟨A, c, rfl, hc, hn⟩ := rep_len h
 go_enter Tryz.func182, Tryz.ntmps182
 go_wp2
 go_loop [8] (fun i => ∃ k : Nat, k ≤ xs.length ∧ i = .int .i64 k ∧ notTo xs x k) (fun i => xs.length - (intOf i).toNat)
 case atStart => exact ⟨0, by omega, rfl, notTo_zero xs x⟩
 case round =>
  obtain ⟨k, hk, rfl, hA⟩ := hrel
  by_cases hlt : k < xs.length
  ·obtain ⟨a, c', he, hcell⟩ := str_elem h hlt
   cases he
   by_cases hx : (x.toList == xs[k].toList) = true
   ·have e1 := mem_at hlt hx
    go_wp2
    go_ret
    exact ⟨⟨_, rfl, by simp [e1]⟩, rfl⟩
   ·have hA' := notTo_succ hA hlt hx
    have hx := Bool.eq_false_iff.2 hx
    go_wp2
    go_round
    case rel => exact ⟨k + 1, by omega, by go_num, hA'⟩
    case measure => simp [intOf]; omega
  ·obtain rfl : k = xs.length := by omega
   have e1 := notTo_end hA
   go_wp2
   go_ret
   exact ⟨⟨_, rfl, by simp [e1]⟩, rfl⟩
theorem Contains_calls {ts : Nat} (xs : List ByteArray) (x : ByteArray) (v : Value) (w : World) (h : rep w (strsT ts xs) v) :
  Calls Tryz.prog 145 #[v, .string x] w fun e w' => e = .returned (.bool (decide (x ∈ xs))) ∧ w = w' := by
 go_enter Tryz.func145, Tryz.ntmps145
 go_wp2_with (first | (go_at_call 182; refine (Index_calls xs x _ _ h).mono ?_; rintro e w' ⟨⟨r, rfl, hr⟩, rfl⟩; have hr := Asd.mk hr))
 all_goals go_ret
 all_goals exact ⟨by have := hr.out; congr 2; try (rw [Bool.eq_iff_iff]; simp [*]), rfl⟩

end Go.Proofs.YtkpkfihaihoaeaaGreatDoor.M
end
section
set_option linter.unusedVariables false
set_option linter.unusedSimpArgs false
namespace Go.Proofs.YtkpkfihaihoaeaaGreatDoor.M
open Go.RowKit

def Case.bk (x : Case) : Nat := x.Text.size
def Case.bs (xs : List Case) : Nat := bsOf Case.bk xs
def Case.Zm (x : Case) : Prop := x.Text.size ≤ 9223372036854775807
def Step.bk (x : Step) : Nat := bkS x.Asks + Case.bs x.Cases + x.Give.size
def Step.bs (xs : List Step) : Nat := bsOf Step.bk xs
def Step.Zm (x : Step) : Prop := SmS x.Asks ∧ (∀ y ∈ x.Cases, y.Zm) ∧ x.Give.size ≤ 9223372036854775807
def Action.bk (x : Action) : Nat := Step.bs x.Steps
def Action.bs (xs : List Action) : Nat := bsOf Action.bk xs
def Action.Zm (x : Action) : Prop := (∀ y ∈ x.Steps, y.Zm)
set_option maxRecDepth 100000 in
set_option maxHeartbeats 2000000 in
theorem szCase_calls (x : Case) (left : Int) (w : World) {vs : List Value} (h : reps w (x.c) vs) (g0 : 0 ≤ left) (g1 : left ≤ 1048576) (hz : x.Zm) :
  Calls Tryz.prog 260 #[.agg vs.toArray, .int .i64 left] w fun e w' => e = .returned (.int .i64 (szI x.bk left)) ∧ Below w.heap.size w w' := by
 unfold Case.Zm at hz
 have z0 := hz
 obtain rfl := Case.ropen h
 clear h
 by_cases q0 : ((x.Text.size : Nat) : Int) ≤ left
 rotate_left
 ·have e1 := Hid.mk' (show szI x.bk left = -1 from szI_no (by unfold Case.bk; omega))
  go_enter Tryz.func260, Tryz.ntmps260
  go_wp2
  go_ret
  exact ⟨by rw [e1.out]; rfl, by first | exact (Below.refl _ _).alloc (Nat.le_refl _) _ | exact HB.out⟩
 have e1 := Hid.mk' (show szI x.bk left = left - (x.Text.size : Nat) from by rw [szI_yes (by unfold Case.bk; omega)]; unfold Case.bk; omega)
 go_enter Tryz.func260, Tryz.ntmps260
 go_wp2
 go_ret
 exact ⟨by rw [e1.out]; rfl, by first | exact (Below.refl _ _).alloc (Nat.le_refl _) _ | exact HB.out⟩
set_option maxRecDepth 100000 in
set_option maxHeartbeats 2000000 in
theorem szCaseS_calls {tCase : Nat} (xs : List Case) (left : Int) (v : Value) (w : World) (h : rep w (CasesT tCase xs) v) (g0 : 0 ≤ left) (g1 : left ≤ 1048576) (hz : ∀ x ∈ xs, x.Zm) :
  Calls Tryz.prog 250 #[v, .int .i64 left] w fun e w' => e = .returned (.int .i64 (szI (Case.bs xs) left)) ∧ Below w.heap.size w w' := by
 obtain ⟨A, c, rfl, hc, hn⟩ := rep_len h
 have h := Asd.mk h
 by_cases q0 : (xs.length : Int) ≤ left
 rotate_left
 ·have e1 := Hid.mk' (show szI (Case.bs xs) left = -1 from szI_no (by unfold Case.bs bsOf; omega))
  go_enter Tryz.func250, Tryz.ntmps250
  go_wp2
  go_ret
  exact ⟨by rw [e1.out]; rfl, Below.refl _ _⟩
 go_enter Tryz.func250, Tryz.ntmps250
 go_wp2
 go_loopw [1, 5] (fun l i wr => ∃ (k : Nat) (L : Int), k ≤ xs.length ∧ i = .int .i64 k ∧ l = .int .i64 L ∧ 0 ≤ L ∧ L ≤ 1048576 ∧ szTo Case.bk xs left k L ∧ Below w.heap.size w wr) (fun _ i _ => xs.length - (intOf i).toNat)
 case atStart => exact ⟨0, _, by omega, rfl, rfl, by omega, by omega, szTo_zero _ _ _, Below.refl _ _⟩
 case round =>
  obtain ⟨k, L, hk, rfl, rfl, hL0, hL1, hA, hbr⟩ := hrel
  by_cases hlt : k < xs.length
  ·obtain ⟨a, c', he, k0, k1, hr⟩ := Case.elem (h.out.below hbr) hlt
   cases he
   have hr := Asd.mk hr
   have hsm := hz _ (List.getElem_mem hlt)
   by_cases q1 : ((xs[k].bk : Nat) : Int) ≤ L
   ·have e1 := szTo_succ hA hlt
    have e2 : szI xs[k].bk L = L - (xs[k].bk : Nat) := szI_yes q1
    go_wp2_with (first | (go_at_call 260; refine (szCase_calls xs[k] L _ hr.out hL0 hL1 hsm).mono ?_; rintro e w2 ⟨rfl, hb2⟩))
    go_roundw
    case rel => exact ⟨k + 1, _, by omega, by go_num, rfl, by omega, by omega, e1, below_st hbr hb2⟩
    case measure => simp [intOf]; omega
   ·have e1 := Hid.mk' (szTo_no hA hlt q1)
    have e2 : szI xs[k].bk L = -1 := szI_no q1
    go_wp2_with (first | (go_at_call 260; refine (szCase_calls xs[k] L _ hr.out hL0 hL1 hsm).mono ?_; rintro e w2 ⟨rfl, hb2⟩))
    go_ret
    exact ⟨by rw [Case.bs, e1.out]; rfl, below_st hbr hb2⟩
  ·obtain rfl : k = xs.length := by omega
   have e1 := Hid.mk' (szTo_end hA hL0)
   go_wp2
   go_ret
   exact ⟨by rw [Case.bs, e1.out]; rfl, hbr⟩
set_option maxRecDepth 100000 in
set_option maxHeartbeats 2000000 in
theorem szStep_calls {tCase : Nat} (x : Step) (left : Int) (w : World) {vs : List Value} (h : reps w (x.c tCase) vs) (g0 : 0 ≤ left) (g1 : left ≤ 1048576) (hz : x.Zm) :
  Calls Tryz.prog 232 #[.agg vs.toArray, .int .i64 left] w fun e w' => e = .returned (.int .i64 (szI x.bk left)) ∧ Below w.heap.size w w' := by
 unfold Step.Zm at hz
 obtain ⟨z0, z1, z2⟩ := hz
 obtain ⟨v0, v2, rfl, h0, h2⟩ := Step.ropen h
 obtain ⟨A0, c0, rfl, _, _⟩ := rep_len h0
 have h0 := Asd.mk h0
 obtain ⟨A2, c2, rfl, _, _⟩ := rep_len h2
 have h2 := Asd.mk h2
 clear h
 by_cases q0 : ((bkS x.Asks : Nat) : Int) ≤ left
 rotate_left
 ·have e1 := Hid.mk' (show szI x.bk left = -1 from szI_no (by unfold Step.bk; omega))
  have s0 : szI (bkS x.Asks) (left) = -1 := szI_no q0
  go_enter Tryz.func232, Tryz.ntmps232
  go_wp2_with (first | (go_at_call 23; refine (szStringS_calls x.Asks _ _ _ (h0.out.below (by first | exact (Below.refl _ _).alloc (Nat.le_refl _) _ | exact HB.out)) (by omega) (by omega) z0).mono ?_; rintro e w1 ⟨rfl, hb1⟩; obtain ⟨hcx, hfx⟩ := bcell hb1; have hzz : w.heap.size < w1.heap.size := (by have := hb1.size; (try simp at this); omega); have HB := Asd.mk (show Below w.heap.size w w1 from by first | exact below_st ((Below.refl _ _).alloc (Nat.le_refl _) _) hb1 | exact below_st HB.out hb1)) | (go_at_call 250; refine (szCaseS_calls x.Cases _ _ _ (h2.out.below (by first | exact (Below.refl _ _).alloc (Nat.le_refl _) _ | exact HB.out)) (by omega) (by omega) z1).mono ?_; rintro e w1 ⟨rfl, hb1⟩; obtain ⟨hcx, hfx⟩ := bcell hb1; have hzz : w.heap.size < w1.heap.size := (by have := hb1.size; (try simp at this); omega); have HB := Asd.mk (show Below w.heap.size w w1 from by first | exact below_st ((Below.refl _ _).alloc (Nat.le_refl _) _) hb1 | exact below_st HB.out hb1)))
  go_ret
  exact ⟨by rw [e1.out]; rfl, by first | exact (Below.refl _ _).alloc (Nat.le_refl _) _ | exact HB.out⟩
 have s0 : szI (bkS x.Asks) (left) = left - (bkS x.Asks : Nat) := szI_yes q0
 by_cases q1 : ((Case.bs x.Cases : Nat) : Int) ≤ left - (bkS x.Asks : Nat)
 rotate_left
 ·have e1 := Hid.mk' (show szI x.bk left = -1 from szI_no (by unfold Step.bk; omega))
  have s1 : szI (Case.bs x.Cases) (left - (bkS x.Asks : Nat)) = -1 := szI_no q1
  go_enter Tryz.func232, Tryz.ntmps232
  go_wp2_with (first | (go_at_call 23; refine (szStringS_calls x.Asks _ _ _ (h0.out.below (by first | exact (Below.refl _ _).alloc (Nat.le_refl _) _ | exact HB.out)) (by omega) (by omega) z0).mono ?_; rintro e w1 ⟨rfl, hb1⟩; obtain ⟨hcx, hfx⟩ := bcell hb1; have hzz : w.heap.size < w1.heap.size := (by have := hb1.size; (try simp at this); omega); have HB := Asd.mk (show Below w.heap.size w w1 from by first | exact below_st ((Below.refl _ _).alloc (Nat.le_refl _) _) hb1 | exact below_st HB.out hb1)) | (go_at_call 250; refine (szCaseS_calls x.Cases _ _ _ (h2.out.below (by first | exact (Below.refl _ _).alloc (Nat.le_refl _) _ | exact HB.out)) (by omega) (by omega) z1).mono ?_; rintro e w1 ⟨rfl, hb1⟩; obtain ⟨hcx, hfx⟩ := bcell hb1; have hzz : w.heap.size < w1.heap.size := (by have := hb1.size; (try simp at this); omega); have HB := Asd.mk (show Below w.heap.size w w1 from by first | exact below_st ((Below.refl _ _).alloc (Nat.le_refl _) _) hb1 | exact below_st HB.out hb1)))
  go_ret
  exact ⟨by rw [e1.out]; rfl, by first | exact (Below.refl _ _).alloc (Nat.le_refl _) _ | exact HB.out⟩
 have s1 : szI (Case.bs x.Cases) (left - (bkS x.Asks : Nat)) = left - (bkS x.Asks : Nat) - (Case.bs x.Cases : Nat) := szI_yes q1
 by_cases q2 : ((x.Give.size : Nat) : Int) ≤ left - (bkS x.Asks : Nat) - (Case.bs x.Cases : Nat)
 rotate_left
 ·have e1 := Hid.mk' (show szI x.bk left = -1 from szI_no (by unfold Step.bk; omega))
  go_enter Tryz.func232, Tryz.ntmps232
  go_wp2_with (first | (go_at_call 23; refine (szStringS_calls x.Asks _ _ _ (h0.out.below (by first | exact (Below.refl _ _).alloc (Nat.le_refl _) _ | exact HB.out)) (by omega) (by omega) z0).mono ?_; rintro e w1 ⟨rfl, hb1⟩; obtain ⟨hcx, hfx⟩ := bcell hb1; have hzz : w.heap.size < w1.heap.size := (by have := hb1.size; (try simp at this); omega); have HB := Asd.mk (show Below w.heap.size w w1 from by first | exact below_st ((Below.refl _ _).alloc (Nat.le_refl _) _) hb1 | exact below_st HB.out hb1)) | (go_at_call 250; refine (szCaseS_calls x.Cases _ _ _ (h2.out.below (by first | exact (Below.refl _ _).alloc (Nat.le_refl _) _ | exact HB.out)) (by omega) (by omega) z1).mono ?_; rintro e w1 ⟨rfl, hb1⟩; obtain ⟨hcx, hfx⟩ := bcell hb1; have hzz : w.heap.size < w1.heap.size := (by have := hb1.size; (try simp at this); omega); have HB := Asd.mk (show Below w.heap.size w w1 from by first | exact below_st ((Below.refl _ _).alloc (Nat.le_refl _) _) hb1 | exact below_st HB.out hb1)))
  go_ret
  exact ⟨by rw [e1.out]; rfl, by first | exact (Below.refl _ _).alloc (Nat.le_refl _) _ | exact HB.out⟩
 have e1 := Hid.mk' (show szI x.bk left = left - (bkS x.Asks : Nat) - (Case.bs x.Cases : Nat) - (x.Give.size : Nat) from by rw [szI_yes (by unfold Step.bk; omega)]; unfold Step.bk; omega)
 go_enter Tryz.func232, Tryz.ntmps232
 go_wp2_with (first | (go_at_call 23; refine (szStringS_calls x.Asks _ _ _ (h0.out.below (by first | exact (Below.refl _ _).alloc (Nat.le_refl _) _ | exact HB.out)) (by omega) (by omega) z0).mono ?_; rintro e w1 ⟨rfl, hb1⟩; obtain ⟨hcx, hfx⟩ := bcell hb1; have hzz : w.heap.size < w1.heap.size := (by have := hb1.size; (try simp at this); omega); have HB := Asd.mk (show Below w.heap.size w w1 from by first | exact below_st ((Below.refl _ _).alloc (Nat.le_refl _) _) hb1 | exact below_st HB.out hb1)) | (go_at_call 250; refine (szCaseS_calls x.Cases _ _ _ (h2.out.below (by first | exact (Below.refl _ _).alloc (Nat.le_refl _) _ | exact HB.out)) (by omega) (by omega) z1).mono ?_; rintro e w1 ⟨rfl, hb1⟩; obtain ⟨hcx, hfx⟩ := bcell hb1; have hzz : w.heap.size < w1.heap.size := (by have := hb1.size; (try simp at this); omega); have HB := Asd.mk (show Below w.heap.size w w1 from by first | exact below_st ((Below.refl _ _).alloc (Nat.le_refl _) _) hb1 | exact below_st HB.out hb1)))
 go_ret
 exact ⟨by rw [e1.out]; rfl, by first | exact (Below.refl _ _).alloc (Nat.le_refl _) _ | exact HB.out⟩
set_option maxRecDepth 100000 in
set_option maxHeartbeats 2000000 in
theorem szStepS_calls {tStep tCase : Nat} (xs : List Step) (left : Int) (v : Value) (w : World) (h : rep w (StepsT tStep tCase xs) v) (g0 : 0 ≤ left) (g1 : left ≤ 1048576) (hz : ∀ x ∈ xs, x.Zm) :
  Calls Tryz.prog 209 #[v, .int .i64 left] w fun e w' => e = .returned (.int .i64 (szI (Step.bs xs) left)) ∧ Below w.heap.size w w' := by
 obtain ⟨A, c, rfl, hc, hn⟩ := rep_len h
 have h := Asd.mk h
 by_cases q0 : (xs.length : Int) ≤ left
 rotate_left
 ·have e1 := Hid.mk' (show szI (Step.bs xs) left = -1 from szI_no (by unfold Step.bs bsOf; omega))
  go_enter Tryz.func209, Tryz.ntmps209
  go_wp2
  go_ret
  exact ⟨by rw [e1.out]; rfl, Below.refl _ _⟩
 go_enter Tryz.func209, Tryz.ntmps209
 go_wp2
 go_loopw [1, 5] (fun l i wr => ∃ (k : Nat) (L : Int), k ≤ xs.length ∧ i = .int .i64 k ∧ l = .int .i64 L ∧ 0 ≤ L ∧ L ≤ 1048576 ∧ szTo Step.bk xs left k L ∧ Below w.heap.size w wr) (fun _ i _ => xs.length - (intOf i).toNat)
 case atStart => exact ⟨0, _, by omega, rfl, rfl, by omega, by omega, szTo_zero _ _ _, Below.refl _ _⟩
 case round =>
  obtain ⟨k, L, hk, rfl, rfl, hL0, hL1, hA, hbr⟩ := hrel
  by_cases hlt : k < xs.length
  ·obtain ⟨a, c', v0, v2, he, k0, k1, k2, k3, k4, k5, k6, k7, h0, h2, hr⟩ := Step.elem (h.out.below hbr) hlt
   cases he
   obtain ⟨B0, b0, rfl, _, _⟩ := rep_len h0
   obtain ⟨B2, b2, rfl, _, _⟩ := rep_len h2
   clear h0 h2
   have hr := Asd.mk hr
   have hsm := hz _ (List.getElem_mem hlt)
   by_cases q1 : ((xs[k].bk : Nat) : Int) ≤ L
   ·have e1 := szTo_succ hA hlt
    have e2 : szI xs[k].bk L = L - (xs[k].bk : Nat) := szI_yes q1
    go_wp2_with (first | (go_at_call 232; refine (szStep_calls xs[k] L _ hr.out hL0 hL1 hsm).mono ?_; rintro e w2 ⟨rfl, hb2⟩))
    go_roundw
    case rel => exact ⟨k + 1, _, by omega, by go_num, rfl, by omega, by omega, e1, below_st hbr hb2⟩
    case measure => simp [intOf]; omega
   ·have e1 := Hid.mk' (szTo_no hA hlt q1)
    have e2 : szI xs[k].bk L = -1 := szI_no q1
    go_wp2_with (first | (go_at_call 232; refine (szStep_calls xs[k] L _ hr.out hL0 hL1 hsm).mono ?_; rintro e w2 ⟨rfl, hb2⟩))
    go_ret
    exact ⟨by rw [Step.bs, e1.out]; rfl, below_st hbr hb2⟩
  ·obtain rfl : k = xs.length := by omega
   have e1 := Hid.mk' (szTo_end hA hL0)
   go_wp2
   go_ret
   exact ⟨by rw [Step.bs, e1.out]; rfl, hbr⟩
set_option maxRecDepth 100000 in
set_option maxHeartbeats 2000000 in
theorem szAction_calls {tStep tCase : Nat} (x : Action) (left : Int) (w : World) {vs : List Value} (h : reps w (x.c tStep tCase) vs) (g0 : 0 ≤ left) (g1 : left ≤ 1048576) (hz : x.Zm) :
  Calls Tryz.prog 172 #[.agg vs.toArray, .int .i64 left] w fun e w' => e = .returned (.int .i64 (szI x.bk left)) ∧ Below w.heap.size w w' := by
 unfold Action.Zm at hz
 have z0 := hz
 obtain ⟨v1, rfl, h1⟩ := Action.ropen h
 obtain ⟨A1, c1, rfl, _, _⟩ := rep_len h1
 have h1 := Asd.mk h1
 clear h
 by_cases q0 : ((Step.bs x.Steps : Nat) : Int) ≤ left
 rotate_left
 ·have e1 := Hid.mk' (show szI x.bk left = -1 from szI_no (by unfold Action.bk; omega))
  have s0 : szI (Step.bs x.Steps) (left) = -1 := szI_no q0
  go_enter Tryz.func172, Tryz.ntmps172
  go_wp2_with (first | (go_at_call 209; refine (szStepS_calls x.Steps _ _ _ (h1.out.below (by first | exact (Below.refl _ _).alloc (Nat.le_refl _) _ | exact HB.out)) (by omega) (by omega) z0).mono ?_; rintro e w1 ⟨rfl, hb1⟩; obtain ⟨hcx, hfx⟩ := bcell hb1; have hzz : w.heap.size < w1.heap.size := (by have := hb1.size; (try simp at this); omega); have HB := Asd.mk (show Below w.heap.size w w1 from by first | exact below_st ((Below.refl _ _).alloc (Nat.le_refl _) _) hb1 | exact below_st HB.out hb1)))
  go_ret
  exact ⟨by rw [e1.out]; rfl, by first | exact (Below.refl _ _).alloc (Nat.le_refl _) _ | exact HB.out⟩
 have s0 : szI (Step.bs x.Steps) (left) = left - (Step.bs x.Steps : Nat) := szI_yes q0
 have e1 := Hid.mk' (show szI x.bk left = left - (Step.bs x.Steps : Nat) from by rw [szI_yes (by unfold Action.bk; omega)]; unfold Action.bk; omega)
 go_enter Tryz.func172, Tryz.ntmps172
 go_wp2_with (first | (go_at_call 209; refine (szStepS_calls x.Steps _ _ _ (h1.out.below (by first | exact (Below.refl _ _).alloc (Nat.le_refl _) _ | exact HB.out)) (by omega) (by omega) z0).mono ?_; rintro e w1 ⟨rfl, hb1⟩; obtain ⟨hcx, hfx⟩ := bcell hb1; have hzz : w.heap.size < w1.heap.size := (by have := hb1.size; (try simp at this); omega); have HB := Asd.mk (show Below w.heap.size w w1 from by first | exact below_st ((Below.refl _ _).alloc (Nat.le_refl _) _) hb1 | exact below_st HB.out hb1)))
 go_ret
 exact ⟨by rw [e1.out]; rfl, by first | exact (Below.refl _ _).alloc (Nat.le_refl _) _ | exact HB.out⟩
end Go.Proofs.YtkpkfihaihoaeaaGreatDoor.M
end
section
set_option linter.unusedVariables false
set_option linter.unusedSimpArgs false
namespace Go.Proofs.YtkpkfihaihoaeaaGreatDoor.M
open Go.RowKit Go.ChangeShapes Go.WideShapes

theorem rdCase : Rd 294 2 Case.c Case.Zm := by
 refine ⟨by kernel_rfl, fun en W fuel cs x hx => ?_⟩
 obtain ⟨xs, n, rfl, _, hl, hn, hf⟩ := DataW.trod_struct Tryz.underlying294 hx
 rw [show Tryz.prog.cellsOf 294 = 2 from by kernel_rfl] at hl
 replace hn : xs.length = 2 := hn
 obtain ⟨c0, c1, rfl⟩ : ∃ c0 c1, cs = [c0, c1] := by
  clear hx hf hn
  rcases cs with _ | ⟨c0, cs⟩
  ·simp at hl
  rcases cs with _ | ⟨c1, cs⟩
  ·simp at hl
  obtain rfl : cs = [] := List.eq_nil_of_length_eq_zero (by simp only [List.length_cons] at hl; omega)
  exact ⟨c0, c1, rfl⟩
 have f0 := hf 0 _ rfl
 rw [List.getElem?_eq_getElem (by omega : 0 < xs.length)] at f0
 obtain ⟨y0, r0, k0⟩ := rdString.2 en W n [c0] _ (by have h := rdString.1; simpa [h] using f0)
 have f1 := hf 1 _ rfl
 rw [List.getElem?_eq_getElem (by omega : 1 < xs.length)] at f1
 obtain ⟨y1, r1, k1⟩ := rdInt.2 en W n [c1] _ (by have h := rdInt.1; simpa [h] using f1)
 exact ⟨⟨y0, y1⟩, (reps_append r0 r1), k0⟩
theorem rdCaseS : Rd 263 1 (fun xs => [CasesT 294 xs]) (fun xs => ∀ x ∈ xs, x.Zm) := rd_slice zCase Tryz.underlying263 (by kernel_rfl) rdCase (fun _ => rfl) (by decide)
theorem rdStep : Rd 265 8 (Step.c 294) Step.Zm := by
 refine ⟨by kernel_rfl, fun en W fuel cs x hx => ?_⟩
 obtain ⟨xs, n, rfl, _, hl, hn, hf⟩ := DataW.trod_struct Tryz.underlying265 hx
 rw [show Tryz.prog.cellsOf 265 = 8 from by kernel_rfl] at hl
 replace hn : xs.length = 8 := hn
 obtain ⟨c0, c1, c2, c3, c4, c5, c6, c7, rfl⟩ : ∃ c0 c1 c2 c3 c4 c5 c6 c7, cs = [c0, c1, c2, c3, c4, c5, c6, c7] := by
  clear hx hf hn
  rcases cs with _ | ⟨c0, cs⟩
  ·simp at hl
  rcases cs with _ | ⟨c1, cs⟩
  ·simp at hl
  rcases cs with _ | ⟨c2, cs⟩
  ·simp at hl
  rcases cs with _ | ⟨c3, cs⟩
  ·simp at hl
  rcases cs with _ | ⟨c4, cs⟩
  ·simp at hl
  rcases cs with _ | ⟨c5, cs⟩
  ·simp at hl
  rcases cs with _ | ⟨c6, cs⟩
  ·simp at hl
  rcases cs with _ | ⟨c7, cs⟩
  ·simp at hl
  obtain rfl : cs = [] := List.eq_nil_of_length_eq_zero (by simp only [List.length_cons] at hl; omega)
  exact ⟨c0, c1, c2, c3, c4, c5, c6, c7, rfl⟩
 have f0 := hf 0 _ rfl
 rw [List.getElem?_eq_getElem (by omega : 0 < xs.length)] at f0
 obtain ⟨y0, r0, k0⟩ := rdStrs.2 en W n [c0] _ (by have h := rdStrs.1; simpa [h] using f0)
 have f1 := hf 1 _ rfl
 rw [List.getElem?_eq_getElem (by omega : 1 < xs.length)] at f1
 obtain ⟨y1, r1, k1⟩ := rdInt.2 en W n [c1] _ (by have h := rdInt.1; simpa [h] using f1)
 have f2 := hf 2 _ rfl
 rw [List.getElem?_eq_getElem (by omega : 2 < xs.length)] at f2
 obtain ⟨y2, r2, k2⟩ := rdCaseS.2 en W n [c2] _ (by have h := rdCaseS.1; simpa [h] using f2)
 have f3 := hf 3 _ rfl
 rw [List.getElem?_eq_getElem (by omega : 3 < xs.length)] at f3
 obtain ⟨y3, r3, k3⟩ := rdInt.2 en W n [c3] _ (by have h := rdInt.1; simpa [h] using f3)
 have f4 := hf 4 _ rfl
 rw [List.getElem?_eq_getElem (by omega : 4 < xs.length)] at f4
 obtain ⟨y4, r4, k4⟩ := rdInt.2 en W n [c4] _ (by have h := rdInt.1; simpa [h] using f4)
 have f5 := hf 5 _ rfl
 rw [List.getElem?_eq_getElem (by omega : 5 < xs.length)] at f5
 obtain ⟨y5, r5, k5⟩ := rdBool.2 en W n [c5] _ (by have h := rdBool.1; simpa [h] using f5)
 have f6 := hf 6 _ rfl
 rw [List.getElem?_eq_getElem (by omega : 6 < xs.length)] at f6
 obtain ⟨y6, r6, k6⟩ := rdBool.2 en W n [c6] _ (by have h := rdBool.1; simpa [h] using f6)
 have f7 := hf 7 _ rfl
 rw [List.getElem?_eq_getElem (by omega : 7 < xs.length)] at f7
 obtain ⟨y7, r7, k7⟩ := rdString.2 en W n [c7] _ (by have h := rdString.1; simpa [h] using f7)
 exact ⟨⟨y0, y1, y2, y3, y4, y5, y6, y7⟩, (reps_append r0 (reps_append r1 (reps_append r2 (reps_append r3 (reps_append r4 (reps_append r5 (reps_append r6 r7))))))), ⟨k0, k2, k7⟩⟩
theorem rdStepS : Rd 155 1 (fun xs => [StepsT 265 294 xs]) (fun xs => ∀ x ∈ xs, x.Zm) := rd_slice zStep Tryz.underlying155 (by kernel_rfl) rdStep (fun _ => rfl) (by decide)
theorem rdAction : Rd 157 2 (Action.c 265 294) Action.Zm := by
 refine ⟨by kernel_rfl, fun en W fuel cs x hx => ?_⟩
 obtain ⟨xs, n, rfl, _, hl, hn, hf⟩ := DataW.trod_struct Tryz.underlying157 hx
 rw [show Tryz.prog.cellsOf 157 = 2 from by kernel_rfl] at hl
 replace hn : xs.length = 2 := hn
 obtain ⟨c0, c1, rfl⟩ : ∃ c0 c1, cs = [c0, c1] := by
  clear hx hf hn
  rcases cs with _ | ⟨c0, cs⟩
  ·simp at hl
  rcases cs with _ | ⟨c1, cs⟩
  ·simp at hl
  obtain rfl : cs = [] := List.eq_nil_of_length_eq_zero (by simp only [List.length_cons] at hl; omega)
  exact ⟨c0, c1, rfl⟩
 have f0 := hf 0 _ rfl
 rw [List.getElem?_eq_getElem (by omega : 0 < xs.length)] at f0
 obtain ⟨y0, r0, k0⟩ := rdInt.2 en W n [c0] _ (by have h := rdInt.1; simpa [h] using f0)
 have f1 := hf 1 _ rfl
 rw [List.getElem?_eq_getElem (by omega : 1 < xs.length)] at f1
 obtain ⟨y1, r1, k1⟩ := rdStepS.2 en W n [c1] _ (by have h := rdStepS.1; simpa [h] using f1)
 exact ⟨⟨y0, y1⟩, (reps_append r0 r1), k1⟩
end Go.Proofs.YtkpkfihaihoaeaaGreatDoor.M
end
section
set_option linter.unusedVariables false
set_option linter.unusedSimpArgs false
namespace Go.Proofs.YtkpkfihaihoaeaaGreatDoor.M
open Go.RowKit

def Node.bk (x : Node) : Nat := x.Name.size + (x.Action.bk)
def Node.bs (xs : List Node) : Nat := bsOf Node.bk xs
def Node.Zm (x : Node) : Prop := x.Name.size ≤ 9223372036854775807 ∧ x.Action.Zm
def Web.bk (x : Web) : Nat := Node.bs x.Nodes
def Web.bs (xs : List Web) : Nat := bsOf Web.bk xs
def Web.Zm (x : Web) : Prop := (∀ y ∈ x.Nodes, y.Zm)
set_option maxRecDepth 100000 in
set_option maxHeartbeats 2000000 in
theorem szNode_calls {tStep tCase : Nat} (x : Node) (left : Int) (w : World) {vs : List Value} (h : reps w (x.c tStep tCase) vs) (g0 : 0 ≤ left) (g1 : left ≤ 1048576) (hz : x.Zm) :
  Calls Tryz.prog 127 #[.agg vs.toArray, .int .i64 left] w fun e w' => e = .returned (.int .i64 (szI x.bk left)) ∧ Below w.heap.size w w' := by
 unfold Node.Zm at hz
 obtain ⟨z0, z1⟩ := hz
 obtain ⟨v2, rfl, h2⟩ := Node.ropen h
 obtain ⟨A2, c2, rfl, _, _⟩ := rep_len h2
 have h2 := Asd.mk h2
 clear h
 by_cases q0 : ((x.Name.size : Nat) : Int) ≤ left
 rotate_left
 ·have e1 := Hid.mk' (show szI x.bk left = -1 from szI_no (by unfold Node.bk; omega))
  go_enter Tryz.func127, Tryz.ntmps127
  go_wp2_with (first | (go_at_call 172; refine (szAction_calls x.Action _ _ (Action.rmk x.Action (h2.out.below (by first | exact (Below.refl _ _).alloc (Nat.le_refl _) _ | exact HB.out))) (by omega) (by omega) z1).mono ?_; rintro e w1 ⟨rfl, hb1⟩; obtain ⟨hcx, hfx⟩ := bcell hb1; have hzz : w.heap.size < w1.heap.size := (by have := hb1.size; (try simp at this); omega); have HB := Asd.mk (show Below w.heap.size w w1 from by first | exact below_st ((Below.refl _ _).alloc (Nat.le_refl _) _) hb1 | exact below_st HB.out hb1)))
  go_ret
  exact ⟨by rw [e1.out]; rfl, by first | exact (Below.refl _ _).alloc (Nat.le_refl _) _ | exact HB.out⟩
 by_cases q1 : (((x.Action.bk) : Nat) : Int) ≤ left - (x.Name.size : Nat)
 rotate_left
 ·have e1 := Hid.mk' (show szI x.bk left = -1 from szI_no (by unfold Node.bk; omega))
  have s1 : szI ((x.Action.bk)) (left - (x.Name.size : Nat)) = -1 := szI_no q1
  go_enter Tryz.func127, Tryz.ntmps127
  go_wp2_with (first | (go_at_call 172; refine (szAction_calls x.Action _ _ (Action.rmk x.Action (h2.out.below (by first | exact (Below.refl _ _).alloc (Nat.le_refl _) _ | exact HB.out))) (by omega) (by omega) z1).mono ?_; rintro e w1 ⟨rfl, hb1⟩; obtain ⟨hcx, hfx⟩ := bcell hb1; have hzz : w.heap.size < w1.heap.size := (by have := hb1.size; (try simp at this); omega); have HB := Asd.mk (show Below w.heap.size w w1 from by first | exact below_st ((Below.refl _ _).alloc (Nat.le_refl _) _) hb1 | exact below_st HB.out hb1)))
  go_ret
  exact ⟨by rw [e1.out]; rfl, by first | exact (Below.refl _ _).alloc (Nat.le_refl _) _ | exact HB.out⟩
 have s1 : szI ((x.Action.bk)) (left - (x.Name.size : Nat)) = left - (x.Name.size : Nat) - ((x.Action.bk) : Nat) := szI_yes q1
 have e1 := Hid.mk' (show szI x.bk left = left - (x.Name.size : Nat) - ((x.Action.bk) : Nat) from by rw [szI_yes (by unfold Node.bk; omega)]; unfold Node.bk; omega)
 go_enter Tryz.func127, Tryz.ntmps127
 go_wp2_with (first | (go_at_call 172; refine (szAction_calls x.Action _ _ (Action.rmk x.Action (h2.out.below (by first | exact (Below.refl _ _).alloc (Nat.le_refl _) _ | exact HB.out))) (by omega) (by omega) z1).mono ?_; rintro e w1 ⟨rfl, hb1⟩; obtain ⟨hcx, hfx⟩ := bcell hb1; have hzz : w.heap.size < w1.heap.size := (by have := hb1.size; (try simp at this); omega); have HB := Asd.mk (show Below w.heap.size w w1 from by first | exact below_st ((Below.refl _ _).alloc (Nat.le_refl _) _) hb1 | exact below_st HB.out hb1)))
 go_ret
 exact ⟨by rw [e1.out]; rfl, by first | exact (Below.refl _ _).alloc (Nat.le_refl _) _ | exact HB.out⟩
set_option maxRecDepth 100000 in
set_option maxHeartbeats 2000000 in
theorem szNodeS_calls {tNode tStep tCase : Nat} (xs : List Node) (left : Int) (v : Value) (w : World) (h : rep w (NodesT tNode tStep tCase xs) v) (g0 : 0 ≤ left) (g1 : left ≤ 1048576) (hz : ∀ x ∈ xs, x.Zm) :
  Calls Tryz.prog 65 #[v, .int .i64 left] w fun e w' => e = .returned (.int .i64 (szI (Node.bs xs) left)) ∧ Below w.heap.size w w' := by
 obtain ⟨A, c, rfl, hc, hn⟩ := rep_len h
 have h := Asd.mk h
 by_cases q0 : (xs.length : Int) ≤ left
 rotate_left
 ·have e1 := Hid.mk' (show szI (Node.bs xs) left = -1 from szI_no (by unfold Node.bs bsOf; omega))
  go_enter Tryz.func65, Tryz.ntmps65
  go_wp2
  go_ret
  exact ⟨by rw [e1.out]; rfl, Below.refl _ _⟩
 go_enter Tryz.func65, Tryz.ntmps65
 go_wp2
 go_loopw [1, 5] (fun l i wr => ∃ (k : Nat) (L : Int), k ≤ xs.length ∧ i = .int .i64 k ∧ l = .int .i64 L ∧ 0 ≤ L ∧ L ≤ 1048576 ∧ szTo Node.bk xs left k L ∧ Below w.heap.size w wr) (fun _ i _ => xs.length - (intOf i).toNat)
 case atStart => exact ⟨0, _, by omega, rfl, rfl, by omega, by omega, szTo_zero _ _ _, Below.refl _ _⟩
 case round =>
  obtain ⟨k, L, hk, rfl, rfl, hL0, hL1, hA, hbr⟩ := hrel
  by_cases hlt : k < xs.length
  ·obtain ⟨a, c', v2, he, k0, k1, k2, h2, hr⟩ := Node.elem (h.out.below hbr) hlt
   cases he
   obtain ⟨B2, b2, rfl, _, _⟩ := rep_len h2
   clear h2
   have hr := Asd.mk hr
   have hsm := hz _ (List.getElem_mem hlt)
   by_cases q1 : ((xs[k].bk : Nat) : Int) ≤ L
   ·have e1 := szTo_succ hA hlt
    have e2 : szI xs[k].bk L = L - (xs[k].bk : Nat) := szI_yes q1
    go_wp2_with (first | (go_at_call 127; refine (szNode_calls xs[k] L _ hr.out hL0 hL1 hsm).mono ?_; rintro e w2 ⟨rfl, hb2⟩))
    go_roundw
    case rel => exact ⟨k + 1, _, by omega, by go_num, rfl, by omega, by omega, e1, below_st hbr hb2⟩
    case measure => simp [intOf]; omega
   ·have e1 := Hid.mk' (szTo_no hA hlt q1)
    have e2 : szI xs[k].bk L = -1 := szI_no q1
    go_wp2_with (first | (go_at_call 127; refine (szNode_calls xs[k] L _ hr.out hL0 hL1 hsm).mono ?_; rintro e w2 ⟨rfl, hb2⟩))
    go_ret
    exact ⟨by rw [Node.bs, e1.out]; rfl, below_st hbr hb2⟩
  ·obtain rfl : k = xs.length := by omega
   have e1 := Hid.mk' (szTo_end hA hL0)
   go_wp2
   go_ret
   exact ⟨by rw [Node.bs, e1.out]; rfl, hbr⟩
set_option maxRecDepth 100000 in
set_option maxHeartbeats 2000000 in
theorem szWeb_calls {tNode tStep tCase : Nat} (x : Web) (left : Int) (w : World) {vs : List Value} (h : reps w (x.c tNode tStep tCase) vs) (g0 : 0 ≤ left) (g1 : left ≤ 1048576) (hz : x.Zm) :
  Calls Tryz.prog 15 #[.agg vs.toArray, .int .i64 left] w fun e w' => e = .returned (.int .i64 (szI x.bk left)) ∧ Below w.heap.size w w' := by
 unfold Web.Zm at hz
 have z0 := hz
 obtain ⟨v0, rfl, h0⟩ := Web.ropen h
 obtain ⟨A0, c0, rfl, _, _⟩ := rep_len h0
 have h0 := Asd.mk h0
 clear h
 by_cases q0 : ((Node.bs x.Nodes : Nat) : Int) ≤ left
 rotate_left
 ·have e1 := Hid.mk' (show szI x.bk left = -1 from szI_no (by unfold Web.bk; omega))
  have s0 : szI (Node.bs x.Nodes) (left) = -1 := szI_no q0
  go_enter Tryz.func15, Tryz.ntmps15
  go_wp2_with (first | (go_at_call 65; refine (szNodeS_calls x.Nodes _ _ _ (h0.out.below (by first | exact (Below.refl _ _).alloc (Nat.le_refl _) _ | exact HB.out)) (by omega) (by omega) z0).mono ?_; rintro e w1 ⟨rfl, hb1⟩; obtain ⟨hcx, hfx⟩ := bcell hb1; have hzz : w.heap.size < w1.heap.size := (by have := hb1.size; (try simp at this); omega); have HB := Asd.mk (show Below w.heap.size w w1 from by first | exact below_st ((Below.refl _ _).alloc (Nat.le_refl _) _) hb1 | exact below_st HB.out hb1)))
  go_ret
  exact ⟨by rw [e1.out]; rfl, by first | exact (Below.refl _ _).alloc (Nat.le_refl _) _ | exact HB.out⟩
 have s0 : szI (Node.bs x.Nodes) (left) = left - (Node.bs x.Nodes : Nat) := szI_yes q0
 have e1 := Hid.mk' (show szI x.bk left = left - (Node.bs x.Nodes : Nat) from by rw [szI_yes (by unfold Web.bk; omega)]; unfold Web.bk; omega)
 go_enter Tryz.func15, Tryz.ntmps15
 go_wp2_with (first | (go_at_call 65; refine (szNodeS_calls x.Nodes _ _ _ (h0.out.below (by first | exact (Below.refl _ _).alloc (Nat.le_refl _) _ | exact HB.out)) (by omega) (by omega) z0).mono ?_; rintro e w1 ⟨rfl, hb1⟩; obtain ⟨hcx, hfx⟩ := bcell hb1; have hzz : w.heap.size < w1.heap.size := (by have := hb1.size; (try simp at this); omega); have HB := Asd.mk (show Below w.heap.size w w1 from by first | exact below_st ((Below.refl _ _).alloc (Nat.le_refl _) _) hb1 | exact below_st HB.out hb1)))
 go_ret
 exact ⟨by rw [e1.out]; rfl, by first | exact (Below.refl _ _).alloc (Nat.le_refl _) _ | exact HB.out⟩
end Go.Proofs.YtkpkfihaihoaeaaGreatDoor.M
end
section
set_option linter.unusedVariables false
set_option linter.unusedSimpArgs false
namespace Go.Proofs.YtkpkfihaihoaeaaGreatDoor.M
open Go.RowKit Go.ChangeShapes Go.WideShapes

theorem rdNode : Rd 159 3 (Node.c 265 294) Node.Zm := by
 refine ⟨by kernel_rfl, fun en W fuel cs x hx => ?_⟩
 obtain ⟨xs, n, rfl, _, hl, hn, hf⟩ := DataW.trod_struct Tryz.underlying159 hx
 rw [show Tryz.prog.cellsOf 159 = 3 from by kernel_rfl] at hl
 replace hn : xs.length = 2 := hn
 obtain ⟨c0, c1, c2, rfl⟩ : ∃ c0 c1 c2, cs = [c0, c1, c2] := by
  clear hx hf hn
  rcases cs with _ | ⟨c0, cs⟩
  ·simp at hl
  rcases cs with _ | ⟨c1, cs⟩
  ·simp at hl
  rcases cs with _ | ⟨c2, cs⟩
  ·simp at hl
  obtain rfl : cs = [] := List.eq_nil_of_length_eq_zero (by simp only [List.length_cons] at hl; omega)
  exact ⟨c0, c1, c2, rfl⟩
 have f0 := hf 0 _ rfl
 rw [List.getElem?_eq_getElem (by omega : 0 < xs.length)] at f0
 obtain ⟨y0, r0, k0⟩ := rdString.2 en W n [c0] _ (by have h := rdString.1; simpa [h] using f0)
 have f1 := hf 1 _ rfl
 rw [List.getElem?_eq_getElem (by omega : 1 < xs.length)] at f1
 obtain ⟨y1, r1, k1⟩ := rdAction.2 en W n [c1, c2] _ (by have h := rdAction.1; simpa [h] using f1)
 exact ⟨⟨y0, y1⟩, (reps_append r0 r1), ⟨k0, k1⟩⟩
theorem rdNodeS : Rd 22 1 (fun xs => [NodesT 159 265 294 xs]) (fun xs => ∀ x ∈ xs, x.Zm) := rd_slice zNode Tryz.underlying22 (by kernel_rfl) rdNode (fun _ => rfl) (by decide)
theorem rdWeb : Rd 24 1 (Web.c 159 265 294) Web.Zm := by
 refine ⟨by kernel_rfl, fun en W fuel cs x hx => ?_⟩
 obtain ⟨xs, n, rfl, _, hl, hn, hf⟩ := DataW.trod_struct Tryz.underlying24 hx
 rw [show Tryz.prog.cellsOf 24 = 1 from by kernel_rfl] at hl
 replace hn : xs.length = 1 := hn
 obtain ⟨c0, rfl⟩ : ∃ c0, cs = [c0] := by
  clear hx hf hn
  rcases cs with _ | ⟨c0, cs⟩
  ·simp at hl
  obtain rfl : cs = [] := List.eq_nil_of_length_eq_zero (by simp only [List.length_cons] at hl; omega)
  exact ⟨c0, rfl⟩
 have f0 := hf 0 _ rfl
 rw [List.getElem?_eq_getElem (by omega : 0 < xs.length)] at f0
 obtain ⟨y0, r0, k0⟩ := rdNodeS.2 en W n [c0] _ (by have h := rdNodeS.1; simpa [h] using f0)
 exact ⟨⟨y0⟩, r0, k0⟩
end Go.Proofs.YtkpkfihaihoaeaaGreatDoor.M
end
section
set_option linter.unusedVariables false
set_option linter.unusedSimpArgs false
namespace Go.Proofs.YtkpkfihaihoaeaaGreatDoor.M
open Go.RowKit

def Run.bk (x : Run) : Nat := x.Name.size + x.Text.size + bkS x.Texts
def Run.bs (xs : List Run) : Nat := bsOf Run.bk xs
def Run.Zm (x : Run) : Prop := x.Name.size ≤ 9223372036854775807 ∧ x.Text.size ≤ 9223372036854775807 ∧ SmS x.Texts
def State.bk (x : State) : Nat := bkS x.Roots + Run.bs x.Runs
def State.bs (xs : List State) : Nat := bsOf State.bk xs
def State.Zm (x : State) : Prop := SmS x.Roots ∧ (∀ y ∈ x.Runs, y.Zm)
set_option maxRecDepth 100000 in
set_option maxHeartbeats 2000000 in
theorem szRun_calls (x : Run) (left : Int) (w : World) {vs : List Value} (h : reps w (x.c) vs) (g0 : 0 ≤ left) (g1 : left ≤ 1048576) (hz : x.Zm) :
  Calls Tryz.prog 128 #[.agg vs.toArray, .int .i64 left] w fun e w' => e = .returned (.int .i64 (szI x.bk left)) ∧ Below w.heap.size w w' := by
 unfold Run.Zm at hz
 obtain ⟨z0, z1, z2⟩ := hz
 obtain ⟨v6, rfl, h6⟩ := Run.ropen h
 obtain ⟨A6, c6, rfl, _, _⟩ := rep_len h6
 have h6 := Asd.mk h6
 clear h
 by_cases q0 : ((x.Name.size : Nat) : Int) ≤ left
 rotate_left
 ·have e1 := Hid.mk' (show szI x.bk left = -1 from szI_no (by unfold Run.bk; omega))
  go_enter Tryz.func128, Tryz.ntmps128
  go_wp2_with (first | (go_at_call 23; refine (szStringS_calls x.Texts _ _ _ (h6.out.below (by first | exact (Below.refl _ _).alloc (Nat.le_refl _) _ | exact HB.out)) (by omega) (by omega) z2).mono ?_; rintro e w1 ⟨rfl, hb1⟩; obtain ⟨hcx, hfx⟩ := bcell hb1; have hzz : w.heap.size < w1.heap.size := (by have := hb1.size; (try simp at this); omega); have HB := Asd.mk (show Below w.heap.size w w1 from by first | exact below_st ((Below.refl _ _).alloc (Nat.le_refl _) _) hb1 | exact below_st HB.out hb1)))
  go_ret
  exact ⟨by rw [e1.out]; rfl, by first | exact (Below.refl _ _).alloc (Nat.le_refl _) _ | exact HB.out⟩
 by_cases q1 : ((x.Text.size : Nat) : Int) ≤ left - (x.Name.size : Nat)
 rotate_left
 ·have e1 := Hid.mk' (show szI x.bk left = -1 from szI_no (by unfold Run.bk; omega))
  go_enter Tryz.func128, Tryz.ntmps128
  go_wp2_with (first | (go_at_call 23; refine (szStringS_calls x.Texts _ _ _ (h6.out.below (by first | exact (Below.refl _ _).alloc (Nat.le_refl _) _ | exact HB.out)) (by omega) (by omega) z2).mono ?_; rintro e w1 ⟨rfl, hb1⟩; obtain ⟨hcx, hfx⟩ := bcell hb1; have hzz : w.heap.size < w1.heap.size := (by have := hb1.size; (try simp at this); omega); have HB := Asd.mk (show Below w.heap.size w w1 from by first | exact below_st ((Below.refl _ _).alloc (Nat.le_refl _) _) hb1 | exact below_st HB.out hb1)))
  go_ret
  exact ⟨by rw [e1.out]; rfl, by first | exact (Below.refl _ _).alloc (Nat.le_refl _) _ | exact HB.out⟩
 by_cases q2 : ((bkS x.Texts : Nat) : Int) ≤ left - (x.Name.size : Nat) - (x.Text.size : Nat)
 rotate_left
 ·have e1 := Hid.mk' (show szI x.bk left = -1 from szI_no (by unfold Run.bk; omega))
  have s2 : szI (bkS x.Texts) (left - (x.Name.size : Nat) - (x.Text.size : Nat)) = -1 := szI_no q2
  go_enter Tryz.func128, Tryz.ntmps128
  go_wp2_with (first | (go_at_call 23; refine (szStringS_calls x.Texts _ _ _ (h6.out.below (by first | exact (Below.refl _ _).alloc (Nat.le_refl _) _ | exact HB.out)) (by omega) (by omega) z2).mono ?_; rintro e w1 ⟨rfl, hb1⟩; obtain ⟨hcx, hfx⟩ := bcell hb1; have hzz : w.heap.size < w1.heap.size := (by have := hb1.size; (try simp at this); omega); have HB := Asd.mk (show Below w.heap.size w w1 from by first | exact below_st ((Below.refl _ _).alloc (Nat.le_refl _) _) hb1 | exact below_st HB.out hb1)))
  go_ret
  exact ⟨by rw [e1.out]; rfl, by first | exact (Below.refl _ _).alloc (Nat.le_refl _) _ | exact HB.out⟩
 have s2 : szI (bkS x.Texts) (left - (x.Name.size : Nat) - (x.Text.size : Nat)) = left - (x.Name.size : Nat) - (x.Text.size : Nat) - (bkS x.Texts : Nat) := szI_yes q2
 have e1 := Hid.mk' (show szI x.bk left = left - (x.Name.size : Nat) - (x.Text.size : Nat) - (bkS x.Texts : Nat) from by rw [szI_yes (by unfold Run.bk; omega)]; unfold Run.bk; omega)
 go_enter Tryz.func128, Tryz.ntmps128
 go_wp2_with (first | (go_at_call 23; refine (szStringS_calls x.Texts _ _ _ (h6.out.below (by first | exact (Below.refl _ _).alloc (Nat.le_refl _) _ | exact HB.out)) (by omega) (by omega) z2).mono ?_; rintro e w1 ⟨rfl, hb1⟩; obtain ⟨hcx, hfx⟩ := bcell hb1; have hzz : w.heap.size < w1.heap.size := (by have := hb1.size; (try simp at this); omega); have HB := Asd.mk (show Below w.heap.size w w1 from by first | exact below_st ((Below.refl _ _).alloc (Nat.le_refl _) _) hb1 | exact below_st HB.out hb1)))
 go_ret
 exact ⟨by rw [e1.out]; rfl, by first | exact (Below.refl _ _).alloc (Nat.le_refl _) _ | exact HB.out⟩
set_option maxRecDepth 100000 in
set_option maxHeartbeats 2000000 in
theorem szRunS_calls {tRun : Nat} (xs : List Run) (left : Int) (v : Value) (w : World) (h : rep w (RunsT tRun xs) v) (g0 : 0 ≤ left) (g1 : left ≤ 1048576) (hz : ∀ x ∈ xs, x.Zm) :
  Calls Tryz.prog 66 #[v, .int .i64 left] w fun e w' => e = .returned (.int .i64 (szI (Run.bs xs) left)) ∧ Below w.heap.size w w' := by
 obtain ⟨A, c, rfl, hc, hn⟩ := rep_len h
 have h := Asd.mk h
 by_cases q0 : (xs.length : Int) ≤ left
 rotate_left
 ·have e1 := Hid.mk' (show szI (Run.bs xs) left = -1 from szI_no (by unfold Run.bs bsOf; omega))
  go_enter Tryz.func66, Tryz.ntmps66
  go_wp2
  go_ret
  exact ⟨by rw [e1.out]; rfl, Below.refl _ _⟩
 go_enter Tryz.func66, Tryz.ntmps66
 go_wp2
 go_loopw [1, 5] (fun l i wr => ∃ (k : Nat) (L : Int), k ≤ xs.length ∧ i = .int .i64 k ∧ l = .int .i64 L ∧ 0 ≤ L ∧ L ≤ 1048576 ∧ szTo Run.bk xs left k L ∧ Below w.heap.size w wr) (fun _ i _ => xs.length - (intOf i).toNat)
 case atStart => exact ⟨0, _, by omega, rfl, rfl, by omega, by omega, szTo_zero _ _ _, Below.refl _ _⟩
 case round =>
  obtain ⟨k, L, hk, rfl, rfl, hL0, hL1, hA, hbr⟩ := hrel
  by_cases hlt : k < xs.length
  ·obtain ⟨a, c', v6, he, k0, k1, k2, k3, k4, k5, k6, h6, hr⟩ := Run.elem (h.out.below hbr) hlt
   cases he
   obtain ⟨B6, b6, rfl, _, _⟩ := rep_len h6
   clear h6
   have hr := Asd.mk hr
   have hsm := hz _ (List.getElem_mem hlt)
   by_cases q1 : ((xs[k].bk : Nat) : Int) ≤ L
   ·have e1 := szTo_succ hA hlt
    have e2 : szI xs[k].bk L = L - (xs[k].bk : Nat) := szI_yes q1
    go_wp2_with (first | (go_at_call 128; refine (szRun_calls xs[k] L _ hr.out hL0 hL1 hsm).mono ?_; rintro e w2 ⟨rfl, hb2⟩))
    go_roundw
    case rel => exact ⟨k + 1, _, by omega, by go_num, rfl, by omega, by omega, e1, below_st hbr hb2⟩
    case measure => simp [intOf]; omega
   ·have e1 := Hid.mk' (szTo_no hA hlt q1)
    have e2 : szI xs[k].bk L = -1 := szI_no q1
    go_wp2_with (first | (go_at_call 128; refine (szRun_calls xs[k] L _ hr.out hL0 hL1 hsm).mono ?_; rintro e w2 ⟨rfl, hb2⟩))
    go_ret
    exact ⟨by rw [Run.bs, e1.out]; rfl, below_st hbr hb2⟩
  ·obtain rfl : k = xs.length := by omega
   have e1 := Hid.mk' (szTo_end hA hL0)
   go_wp2
   go_ret
   exact ⟨by rw [Run.bs, e1.out]; rfl, hbr⟩
set_option maxRecDepth 100000 in
set_option maxHeartbeats 2000000 in
theorem szState_calls {tRun : Nat} (x : State) (left : Int) (w : World) {vs : List Value} (h : reps w (x.c tRun) vs) (g0 : 0 ≤ left) (g1 : left ≤ 1048576) (hz : x.Zm) :
  Calls Tryz.prog 16 #[.agg vs.toArray, .int .i64 left] w fun e w' => e = .returned (.int .i64 (szI x.bk left)) ∧ Below w.heap.size w w' := by
 unfold State.Zm at hz
 obtain ⟨z0, z1⟩ := hz
 obtain ⟨v0, v1, rfl, h0, h1⟩ := State.ropen h
 obtain ⟨A0, c0, rfl, _, _⟩ := rep_len h0
 have h0 := Asd.mk h0
 obtain ⟨A1, c1, rfl, _, _⟩ := rep_len h1
 have h1 := Asd.mk h1
 clear h
 by_cases q0 : ((bkS x.Roots : Nat) : Int) ≤ left
 rotate_left
 ·have e1 := Hid.mk' (show szI x.bk left = -1 from szI_no (by unfold State.bk; omega))
  have s0 : szI (bkS x.Roots) (left) = -1 := szI_no q0
  go_enter Tryz.func16, Tryz.ntmps16
  go_wp2_with (first | (go_at_call 23; refine (szStringS_calls x.Roots _ _ _ (h0.out.below (by first | exact (Below.refl _ _).alloc (Nat.le_refl _) _ | exact HB.out)) (by omega) (by omega) z0).mono ?_; rintro e w1 ⟨rfl, hb1⟩; obtain ⟨hcx, hfx⟩ := bcell hb1; have hzz : w.heap.size < w1.heap.size := (by have := hb1.size; (try simp at this); omega); have HB := Asd.mk (show Below w.heap.size w w1 from by first | exact below_st ((Below.refl _ _).alloc (Nat.le_refl _) _) hb1 | exact below_st HB.out hb1)) | (go_at_call 66; refine (szRunS_calls x.Runs _ _ _ (h1.out.below (by first | exact (Below.refl _ _).alloc (Nat.le_refl _) _ | exact HB.out)) (by omega) (by omega) z1).mono ?_; rintro e w1 ⟨rfl, hb1⟩; obtain ⟨hcx, hfx⟩ := bcell hb1; have hzz : w.heap.size < w1.heap.size := (by have := hb1.size; (try simp at this); omega); have HB := Asd.mk (show Below w.heap.size w w1 from by first | exact below_st ((Below.refl _ _).alloc (Nat.le_refl _) _) hb1 | exact below_st HB.out hb1)))
  go_ret
  exact ⟨by rw [e1.out]; rfl, by first | exact (Below.refl _ _).alloc (Nat.le_refl _) _ | exact HB.out⟩
 have s0 : szI (bkS x.Roots) (left) = left - (bkS x.Roots : Nat) := szI_yes q0
 by_cases q1 : ((Run.bs x.Runs : Nat) : Int) ≤ left - (bkS x.Roots : Nat)
 rotate_left
 ·have e1 := Hid.mk' (show szI x.bk left = -1 from szI_no (by unfold State.bk; omega))
  have s1 : szI (Run.bs x.Runs) (left - (bkS x.Roots : Nat)) = -1 := szI_no q1
  go_enter Tryz.func16, Tryz.ntmps16
  go_wp2_with (first | (go_at_call 23; refine (szStringS_calls x.Roots _ _ _ (h0.out.below (by first | exact (Below.refl _ _).alloc (Nat.le_refl _) _ | exact HB.out)) (by omega) (by omega) z0).mono ?_; rintro e w1 ⟨rfl, hb1⟩; obtain ⟨hcx, hfx⟩ := bcell hb1; have hzz : w.heap.size < w1.heap.size := (by have := hb1.size; (try simp at this); omega); have HB := Asd.mk (show Below w.heap.size w w1 from by first | exact below_st ((Below.refl _ _).alloc (Nat.le_refl _) _) hb1 | exact below_st HB.out hb1)) | (go_at_call 66; refine (szRunS_calls x.Runs _ _ _ (h1.out.below (by first | exact (Below.refl _ _).alloc (Nat.le_refl _) _ | exact HB.out)) (by omega) (by omega) z1).mono ?_; rintro e w1 ⟨rfl, hb1⟩; obtain ⟨hcx, hfx⟩ := bcell hb1; have hzz : w.heap.size < w1.heap.size := (by have := hb1.size; (try simp at this); omega); have HB := Asd.mk (show Below w.heap.size w w1 from by first | exact below_st ((Below.refl _ _).alloc (Nat.le_refl _) _) hb1 | exact below_st HB.out hb1)))
  go_ret
  exact ⟨by rw [e1.out]; rfl, by first | exact (Below.refl _ _).alloc (Nat.le_refl _) _ | exact HB.out⟩
 have s1 : szI (Run.bs x.Runs) (left - (bkS x.Roots : Nat)) = left - (bkS x.Roots : Nat) - (Run.bs x.Runs : Nat) := szI_yes q1
 have e1 := Hid.mk' (show szI x.bk left = left - (bkS x.Roots : Nat) - (Run.bs x.Runs : Nat) from by rw [szI_yes (by unfold State.bk; omega)]; unfold State.bk; omega)
 go_enter Tryz.func16, Tryz.ntmps16
 go_wp2_with (first | (go_at_call 23; refine (szStringS_calls x.Roots _ _ _ (h0.out.below (by first | exact (Below.refl _ _).alloc (Nat.le_refl _) _ | exact HB.out)) (by omega) (by omega) z0).mono ?_; rintro e w1 ⟨rfl, hb1⟩; obtain ⟨hcx, hfx⟩ := bcell hb1; have hzz : w.heap.size < w1.heap.size := (by have := hb1.size; (try simp at this); omega); have HB := Asd.mk (show Below w.heap.size w w1 from by first | exact below_st ((Below.refl _ _).alloc (Nat.le_refl _) _) hb1 | exact below_st HB.out hb1)) | (go_at_call 66; refine (szRunS_calls x.Runs _ _ _ (h1.out.below (by first | exact (Below.refl _ _).alloc (Nat.le_refl _) _ | exact HB.out)) (by omega) (by omega) z1).mono ?_; rintro e w1 ⟨rfl, hb1⟩; obtain ⟨hcx, hfx⟩ := bcell hb1; have hzz : w.heap.size < w1.heap.size := (by have := hb1.size; (try simp at this); omega); have HB := Asd.mk (show Below w.heap.size w w1 from by first | exact below_st ((Below.refl _ _).alloc (Nat.le_refl _) _) hb1 | exact below_st HB.out hb1)))
 go_ret
 exact ⟨by rw [e1.out]; rfl, by first | exact (Below.refl _ _).alloc (Nat.le_refl _) _ | exact HB.out⟩
end Go.Proofs.YtkpkfihaihoaeaaGreatDoor.M
end
section
set_option linter.unusedVariables false
set_option linter.unusedSimpArgs false
namespace Go.Proofs.YtkpkfihaihoaeaaGreatDoor.M
open Go.RowKit Go.ChangeShapes Go.WideShapes

theorem rdRun : Rd 161 7 Run.c Run.Zm := by
 refine ⟨by kernel_rfl, fun en W fuel cs x hx => ?_⟩
 obtain ⟨xs, n, rfl, _, hl, hn, hf⟩ := DataW.trod_struct Tryz.underlying161 hx
 rw [show Tryz.prog.cellsOf 161 = 7 from by kernel_rfl] at hl
 replace hn : xs.length = 7 := hn
 obtain ⟨c0, c1, c2, c3, c4, c5, c6, rfl⟩ : ∃ c0 c1 c2 c3 c4 c5 c6, cs = [c0, c1, c2, c3, c4, c5, c6] := by
  clear hx hf hn
  rcases cs with _ | ⟨c0, cs⟩
  ·simp at hl
  rcases cs with _ | ⟨c1, cs⟩
  ·simp at hl
  rcases cs with _ | ⟨c2, cs⟩
  ·simp at hl
  rcases cs with _ | ⟨c3, cs⟩
  ·simp at hl
  rcases cs with _ | ⟨c4, cs⟩
  ·simp at hl
  rcases cs with _ | ⟨c5, cs⟩
  ·simp at hl
  rcases cs with _ | ⟨c6, cs⟩
  ·simp at hl
  obtain rfl : cs = [] := List.eq_nil_of_length_eq_zero (by simp only [List.length_cons] at hl; omega)
  exact ⟨c0, c1, c2, c3, c4, c5, c6, rfl⟩
 have f0 := hf 0 _ rfl
 rw [List.getElem?_eq_getElem (by omega : 0 < xs.length)] at f0
 obtain ⟨y0, r0, k0⟩ := rdString.2 en W n [c0] _ (by have h := rdString.1; simpa [h] using f0)
 have f1 := hf 1 _ rfl
 rw [List.getElem?_eq_getElem (by omega : 1 < xs.length)] at f1
 obtain ⟨y1, r1, k1⟩ := rdBool.2 en W n [c1] _ (by have h := rdBool.1; simpa [h] using f1)
 have f2 := hf 2 _ rfl
 rw [List.getElem?_eq_getElem (by omega : 2 < xs.length)] at f2
 obtain ⟨y2, r2, k2⟩ := rdBool.2 en W n [c2] _ (by have h := rdBool.1; simpa [h] using f2)
 have f3 := hf 3 _ rfl
 rw [List.getElem?_eq_getElem (by omega : 3 < xs.length)] at f3
 obtain ⟨y3, r3, k3⟩ := rdString.2 en W n [c3] _ (by have h := rdString.1; simpa [h] using f3)
 have f4 := hf 4 _ rfl
 rw [List.getElem?_eq_getElem (by omega : 4 < xs.length)] at f4
 obtain ⟨y4, r4, k4⟩ := rdInt.2 en W n [c4] _ (by have h := rdInt.1; simpa [h] using f4)
 have f5 := hf 5 _ rfl
 rw [List.getElem?_eq_getElem (by omega : 5 < xs.length)] at f5
 obtain ⟨y5, r5, k5⟩ := rdInt.2 en W n [c5] _ (by have h := rdInt.1; simpa [h] using f5)
 have f6 := hf 6 _ rfl
 rw [List.getElem?_eq_getElem (by omega : 6 < xs.length)] at f6
 obtain ⟨y6, r6, k6⟩ := rdStrs.2 en W n [c6] _ (by have h := rdStrs.1; simpa [h] using f6)
 exact ⟨⟨y0, y1, y2, y3, y4, y5, y6⟩, (reps_append r0 (reps_append r1 (reps_append r2 (reps_append r3 (reps_append r4 (reps_append r5 r6)))))), ⟨k0, k3, k6⟩⟩
theorem rdRunS : Rd 26 1 (fun xs => [RunsT 161 xs]) (fun xs => ∀ x ∈ xs, x.Zm) := rd_slice zRun Tryz.underlying26 (by kernel_rfl) rdRun (fun _ => rfl) (by decide)
theorem rdState : Rd 28 2 (State.c 161) State.Zm := by
 refine ⟨by kernel_rfl, fun en W fuel cs x hx => ?_⟩
 obtain ⟨xs, n, rfl, _, hl, hn, hf⟩ := DataW.trod_struct Tryz.underlying28 hx
 rw [show Tryz.prog.cellsOf 28 = 2 from by kernel_rfl] at hl
 replace hn : xs.length = 2 := hn
 obtain ⟨c0, c1, rfl⟩ : ∃ c0 c1, cs = [c0, c1] := by
  clear hx hf hn
  rcases cs with _ | ⟨c0, cs⟩
  ·simp at hl
  rcases cs with _ | ⟨c1, cs⟩
  ·simp at hl
  obtain rfl : cs = [] := List.eq_nil_of_length_eq_zero (by simp only [List.length_cons] at hl; omega)
  exact ⟨c0, c1, rfl⟩
 have f0 := hf 0 _ rfl
 rw [List.getElem?_eq_getElem (by omega : 0 < xs.length)] at f0
 obtain ⟨y0, r0, k0⟩ := rdStrs.2 en W n [c0] _ (by have h := rdStrs.1; simpa [h] using f0)
 have f1 := hf 1 _ rfl
 rw [List.getElem?_eq_getElem (by omega : 1 < xs.length)] at f1
 obtain ⟨y1, r1, k1⟩ := rdRunS.2 en W n [c1] _ (by have h := rdRunS.1; simpa [h] using f1)
 exact ⟨⟨y0, y1⟩, (reps_append r0 r1), ⟨k0, k1⟩⟩
end Go.Proofs.YtkpkfihaihoaeaaGreatDoor.M
end
section
set_option linter.unusedVariables false
set_option linter.unusedSimpArgs false
namespace Go.Proofs.YtkpkfihaihoaeaaGreatDoor.M
open Go.RowKit
theorem reps_one {w : World} {t : T} {v : Value} (h : reps w [t] [v]) : rep w t v := by
 simp only [reps] at h
 obtain ⟨u, us, he, h1, rfl⟩ := h
 cases he; exact h1
end Go.Proofs.YtkpkfihaihoaeaaGreatDoor.M
end
section
set_option linter.unusedVariables false
set_option linter.unusedSimpArgs false
namespace Go.Proofs.YtkpkfihaihoaeaaGreatDoor.M
open Go.RowKit

theorem info_str : (Tryz.prog.info? 9).map (fun i => (i.zero, i.size, i.bytes)) = some (some (.string ⟨#[]⟩), 1, 16) := by kernel_rfl
theorem zstr (W : World) : owns W (strC ⟨#[]⟩) (Value.string ⟨#[]⟩).cells.toList [] := strC_own W _
end Go.Proofs.YtkpkfihaihoaeaaGreatDoor.M
end
section
set_option linter.unusedVariables false
set_option linter.unusedSimpArgs false
namespace Go.Proofs.YtkpkfihaihoaeaaGreatDoor.M
open Go.RowKit

theorem info_Case : (Tryz.prog.info? 213).map (fun i => (i.zero, i.size, i.bytes)) = some (some (.agg #[.string ⟨#[]⟩, .int .i64 0]), 2, 24) := by kernel_rfl
theorem z_Case (W : World) : owns W (zCase.c) (Value.agg #[.string ⟨#[]⟩, .int .i64 0]).cells.toList [] := by have h := Case.omk (w := W) zCase ; simpa [Value.cells, zCase] using h
theorem info_Step : (Tryz.prog.info? 121).map (fun i => (i.zero, i.size, i.bytes)) = some (some (.agg #[.slice none 0 0, .int .i64 0, .slice none 0 0, .int .i64 0, .int .i64 0, .bool false, .bool false, .string ⟨#[]⟩]), 8, 96) := by kernel_rfl
theorem z_Step {tCase : Nat} (W : World) : owns W (zStep.c tCase) (Value.agg #[.slice none 0 0, .int .i64 0, .slice none 0 0, .int .i64 0, .int .i64 0, .bool false, .bool false, .string ⟨#[]⟩]).cells.toList [] := by have h := Step.omk (w := W) (tCase := tCase) zStep (own_nil _ _ _) (own_nil _ _ _); simpa [Value.cells, zStep] using h
end Go.Proofs.YtkpkfihaihoaeaaGreatDoor.M
end
section
set_option linter.unusedVariables false
set_option linter.unusedSimpArgs false
namespace Go.Proofs.YtkpkfihaihoaeaaGreatDoor.M
open Go.RowKit

theorem info_Node : (Tryz.prog.info? 113).map (fun i => (i.zero, i.size, i.bytes)) = some (some (.agg #[.string ⟨#[]⟩, .int .i64 0, .slice none 0 0]), 3, 48) := by kernel_rfl
theorem z_Node {tStep tCase : Nat} (W : World) : owns W (zNode.c tStep tCase) (Value.agg #[.string ⟨#[]⟩, .int .i64 0, .slice none 0 0]).cells.toList [] := by have h := Node.omk (w := W) (tStep := tStep) (tCase := tCase) zNode (own_nil _ _ _); simpa [Value.cells, zNode, zAction] using h
end Go.Proofs.YtkpkfihaihoaeaaGreatDoor.M
end
section
set_option linter.unusedVariables false
set_option linter.unusedSimpArgs false
namespace Go.Proofs.YtkpkfihaihoaeaaGreatDoor.M
open Go.RowKit

theorem clast {α : Type} {A B : α} (h : A = B) : B = A := h.symm
set_option maxRecDepth 100000 in
set_option maxHeartbeats 2000000 in
theorem toStringS_calls {t : Nat} (xs : List ByteArray) (v : Value) (w : World) (h : rep w (strsT t xs) v) (hz : xs.length ≤ 1048576) :
  Calls Tryz.prog 25 #[v] w (MadeV w (strsT 9 xs)) := by
 obtain ⟨A, c, rfl, hc, hn⟩ := rep_len h
 have h := Asd.mk h
 go_enter Tryz.func25, Tryz.ntmps25
 go_wp2_with (first | (at_make; refine mk rfl rfl Tryz.underlying25 info_str rfl (by decide) xs.length rfl rfl rfl rfl (by omega) (by unfold maxLen; omega) zstr ?_; intro w1 hown hbel hsz))
 rw [← toTo_zero strC] at hown
 have hown := Asd.mk hown
 go_loopw [4] (fun i wr => ∃ k : Nat, k ≤ xs.length ∧ i = .int .i64 k ∧ (∃ F, own wr (.l 9 1 xs.length (toTo strC (strC ⟨#[]⟩) xs k)) (.slice (some ⟨w.heap.size, 0, none⟩) xs.length xs.length) F ∧ F.Nodup ∧ ∀ k ∈ F, w.heap.size ≤ k) ∧ Below w.heap.size w wr) (fun i _ => xs.length - (intOf i).toNat)
 case atStart => exact ⟨0, by omega, rfl, ⟨_, hown.out, by simp, by simp⟩, hbel⟩
 case round =>
  obtain ⟨k, hk, rfl, ⟨F, ho, hF, hFl⟩, hbr⟩ := hrel
  have ho := Asd.mk ho
  by_cases hlt : k < xs.length
  ·obtain ⟨a, c', he, hcell⟩ := str_elem (h.out.below hbr) hlt
   cases he
   obtain ⟨u, hu, hfr⟩ := own_at ho.out (j := k) (by rw [toTo_length (enc := strC) (sz := 1) (fun _ => rfl) rfl xs hk]; omega)
   go_wp2
   obtain ⟨F2, r1, r2, r3⟩ := own_stores (us := [.string xs[k]]) (ts := strC xs[k]) (j := k * 1) (F' := []) ho.out (by rw [toTo_length (enc := strC) (sz := 1) (fun _ => rfl) rfl xs hk]; simp [strC]; omega) (strC_own _ _) (by simp)
   rw [toTo_succ (enc := strC) (sz := 1) (fun _ => rfl) rfl xs hlt, Nat.mul_one] at r1
   have r1 := Asd.mk r1
   go_roundw
   case rel => exact ⟨k + 1, by omega, by go_num, ⟨F2, r1.out, r3 hF (by simp) (by simp), fun k hk => (r2 k hk).elim (hFl k) (fun h => by cases h)⟩, hbr.setCell (by simp) _⟩
   case measure => simp [intOf]; omega
  ·obtain rfl : k = xs.length := by omega
   rw [toTo_end] at ho
   have ho := Asd.mk ho.out
   go_wp2
   go_ret
   exact ⟨_, rfl, ⟨F, ho.out, hF, hFl⟩, hbr⟩
end Go.Proofs.YtkpkfihaihoaeaaGreatDoor.M
end
section
set_option linter.unusedVariables false
set_option linter.unusedSimpArgs false
namespace Go.Proofs.YtkpkfihaihoaeaaGreatDoor.M
open Go.RowKit

set_option maxRecDepth 100000 in
set_option maxHeartbeats 1000000 in
theorem toCase_calls (x : Case) (w : World) {vs : List Value} (h : reps w (x.c) vs) (hz : x.bk ≤ 1048576) :
  Calls Tryz.prog 261 #[.agg vs.toArray] w (MadeA w (x.c)) := by
 obtain rfl := Case.ropen h
 clear h
 unfold Case.bk at hz
 have HB := Asd.mk (Below.refl w.heap.size w)
 go_enter Tryz.func261, Tryz.ntmps261
 go_wp2
 refine bodyPost_ret (v := .agg #[.string x.Text, .int .i64 x.Goto]) (by simp [results, Tryz.results261, go_sem, *]) rfl ?_
 exact ⟨_, rfl, ⟨[], Case.omk x, by simp, by simp⟩, by repeat (first | (with_reducible exact Below.refl _ _) | (with_reducible exact HB.out) | (with_reducible refine below_al ?_ _) | ((with_reducible refine Below.setCell ?_ ?_ _); rotate_left; (next => first | (simp; done) | (simp; omega))))⟩
set_option maxRecDepth 100000 in
set_option maxHeartbeats 1000000 in
theorem toCaseS_calls {tCase : Nat} (xs : List Case) (v : Value) (w : World) (h : rep w (CasesT tCase xs) v) (hz : Case.bs xs ≤ 1048576) :
  Calls Tryz.prog 251 #[v] w (MadeV w (CasesT 213 xs)) := by
 obtain ⟨A, c, rfl, hc, hn⟩ := rep_len h
 have h := Asd.mk h
 have hln : xs.length ≤ 1048576 := by unfold Case.bs bsOf at hz; omega
 go_enter Tryz.func251, Tryz.ntmps251
 go_wp2_with (first | (at_make; refine mk rfl rfl Tryz.underlying119 info_Case rfl (by decide) xs.length rfl rfl rfl rfl (by omega) (by unfold maxLen; omega) (z_Case) ?_; intro w1 hown hbel hsz))
 rw [← toTo_zero Case.c] at hown
 have hown := Asd.mk hown
 go_loopw [4] (fun i wr => ∃ k : Nat, k ≤ xs.length ∧ i = .int .i64 k ∧ (∃ F, own wr (.l 213 2 xs.length (toTo Case.c (Case.c zCase) xs k)) (.slice (some ⟨w.heap.size, 0, none⟩) xs.length xs.length) F ∧ F.Nodup ∧ ∀ k ∈ F, w.heap.size ≤ k) ∧ Below w.heap.size w wr) (fun i _ => xs.length - (intOf i).toNat)
 case atStart => exact ⟨0, by omega, rfl, ⟨_, hown.out, by simp, by simp⟩, hbel⟩
 case round =>
  obtain ⟨k, hk, rfl, ⟨F, ho, hF, hFl⟩, hbr⟩ := hrel
  have ho := Asd.mk ho
  by_cases hlt : k < xs.length
  ·obtain ⟨a, c', he, k0, k1, hr⟩ := Case.elem (h.out.below hbr) hlt
   cases he
   have hr := Asd.mk hr
   have hFl := Asd.mk hFl
   have hbk : xs[k].bk ≤ 1048576 := by have := sumTo_le Case.bk xs k hlt; unfold Case.bs bsOf at hz; omega
   go_wp2_with (first | (go_at_call 261; refine (toCase_calls xs[k] _ hr.out hbk).mono ?_; rintro e w1 ⟨us, rfl, ⟨F2, o2, n2, l2⟩, hb1⟩; have q2 := Asd.mk o2; obtain ⟨rfl, _⟩ := Case.oopen o2; have ho1 := own.below ho.out hb1; obtain ⟨u0, hu0, hf0⟩ := own_at ho1 (j := k * 2) (by rw [toTo_length (enc := Case.c) (zt := Case.c zCase) (sz := 2) (fun _ => rfl) rfl xs hk]; omega); obtain ⟨u1, hu1, hf1⟩ := own_at ho1 (j := k * 2 + 1) (by rw [toTo_length (enc := Case.c) (zt := Case.c zCase) (sz := 2) (fun _ => rfl) rfl xs hk]; omega); have ho1 := Asd.mk ho1; have l2 := Asd.mk l2; have HB := Asd.mk (below_st hbr hb1); clear hb1 o2))
   have hg : w.heap.size ∉ F2 := by intro hk; have h1 := l2.out _ hk; have h2 := own.lt ho.out w.heap.size (by obtain ⟨g_, c_, e_, hg_, _⟩ := own_form ho.out (by omega); cases e_; exact hg_); omega
   obtain ⟨F3, r1, r2, r3⟩ := own_stores (j := k * 2) ho1.out (by rw [toTo_length (enc := Case.c) (zt := Case.c zCase) (sz := 2) (fun _ => rfl) rfl xs hk]; show k * 2 + 2 ≤ xs.length * 2; omega) q2.out (by assumption)
   rw [toTo_succ (enc := Case.c) (zt := Case.c zCase) (sz := 2) (fun _ => rfl) rfl xs hlt] at r1
   simp only [setCells, Nat.add_assoc, Nat.reduceAdd] at r1
   have r1 := Asd.mk r1
   go_roundw
   case rel => exact ⟨k + 1, by omega, by go_num, ⟨F3, r1.out, r3 hF n2 (fun k hk hk' => by have h1 := l2.out k hk; have h2 := ho.out.lt k hk'; omega), fun k hk => (r2 k hk).elim (hFl.out k) (fun h => by have h1 := l2.out k h; have h2 := hbr.size; omega)⟩, by repeat (first | (with_reducible exact HB.out) | ((with_reducible refine Below.setCell ?_ ?_ _); rotate_left; (next => first | (simp; done) | (simp; omega))))⟩
   case measure => simp [intOf]; omega
  ·obtain rfl : k = xs.length := by omega
   rw [toTo_end] at ho
   have ho := Asd.mk ho.out
   go_wp2
   go_ret
   exact ⟨_, rfl, ⟨F, ho.out, hF, hFl⟩, hbr⟩
set_option maxRecDepth 100000 in
set_option maxHeartbeats 1000000 in
theorem toStep_calls {tCase : Nat} (x : Step) (w : World) {vs : List Value} (h : reps w (x.c tCase) vs) (hz : x.bk ≤ 1048576) :
  Calls Tryz.prog 233 #[.agg vs.toArray] w (MadeA w (x.c 213)) := by
 obtain ⟨v0, v2, rfl, h0, h2⟩ := Step.ropen h
 obtain ⟨A0, c0, rfl, _, _⟩ := rep_len h0
 replace h0 := Asd.mk h0
 obtain ⟨A2, c2, rfl, _, _⟩ := rep_len h2
 replace h2 := Asd.mk h2
 clear h
 unfold Step.bk at hz
 have HB := Asd.mk (Below.refl w.heap.size w)
 go_enter Tryz.func233, Tryz.ntmps233
 go_wp2_with fail
 refine (toStringS_calls x.Asks _ _ (h0.out.below (by repeat (first | (with_reducible exact Below.refl _ _) | (with_reducible exact HB.out) | (with_reducible refine below_al ?_ _) | ((with_reducible refine Below.setCell ?_ ?_ _); rotate_left; (next => first | (simp; done) | (simp; omega)))))) (by unfold bkS bsOf at hz; omega)).mono ?_
 rintro e w1 ⟨v0, rfl, ⟨F0, o0, n0, l0⟩, hb1⟩
 obtain ⟨B0, b0, rfl, _, _⟩ := own_slice o0
 replace o0 := Asd.mk o0
 replace l0 := Asd.mk l0
 have u0 := Asd.mk o0.out.lt
 replace HB := Asd.mk (show Below w.heap.size w w1 from below_st (by repeat (first | (with_reducible exact Below.refl _ _) | (with_reducible exact HB.out) | (with_reducible refine below_al ?_ _) | ((with_reducible refine Below.setCell ?_ ?_ _); rotate_left; (next => first | (simp; done) | (simp; omega))))) hb1)
 obtain ⟨hcx, hfx⟩ := bcell hb1
 have hzz : w.heap.size + 1 + 1 < w1.heap.size := by have := hb1.size; (try simp at this); omega
 have hz0 : w.heap.size < w1.heap.size := by omega
 have hz1 : w.heap.size + 1 < w1.heap.size := by omega
 clear hb1
 go_wp2_with fail
 refine (toCaseS_calls x.Cases _ _ (h2.out.below (by repeat (first | (with_reducible exact Below.refl _ _) | (with_reducible exact HB.out) | (with_reducible refine below_al ?_ _) | ((with_reducible refine Below.setCell ?_ ?_ _); rotate_left; (next => first | (simp; done) | (simp; omega)))))) (by omega)).mono ?_
 rintro e w1 ⟨v2, rfl, ⟨F2, o2, n2, l2⟩, hb1⟩
 replace o0 := Asd.mk (own.below (t := strsT 9 x.Asks) (v := .slice B0 x.Asks.length b0) (F := F0) (by repeat (first | (with_reducible exact o0.out) | ((with_reducible refine own.set ?_ (fun hk_ => ?_) _); rotate_left; (next => have hk_ := l0.out _ hk_; simp at hk_; omega)) | (with_reducible refine own.alloc ?_ _))) hb1)
 obtain ⟨B2, b2, rfl, _, _⟩ := own_slice o2
 replace o2 := Asd.mk o2
 replace l2 := Asd.mk l2
 have u2 := Asd.mk o2.out.lt
 replace HB := Asd.mk (show Below w.heap.size w w1 from below_st (by repeat (first | (with_reducible exact Below.refl _ _) | (with_reducible exact HB.out) | (with_reducible refine below_al ?_ _) | ((with_reducible refine Below.setCell ?_ ?_ _); rotate_left; (next => first | (simp; done) | (simp; omega))))) hb1)
 obtain ⟨hcx, hfx⟩ := bcell hb1
 have hzz : w.heap.size + 1 + 1 < w1.heap.size := by have := hb1.size; (try simp at this); omega
 have hz0 : w.heap.size < w1.heap.size := by omega
 have hz1 : w.heap.size + 1 < w1.heap.size := by omega
 clear hb1
 go_wp2
 refine bodyPost_ret (v := .agg #[.slice B0 x.Asks.length b0, .int .i64 x.On, .slice B2 x.Cases.length b2, .int .i64 x.Else, .int .i64 x.Fall, .bool x.End, .bool x.Bad, .string x.Give]) (by simp [results, Tryz.results233, go_sem, *]) rfl ?_
 exact ⟨_, rfl, ⟨_, Step.omk x (by repeat (first | (with_reducible exact o0.out) | ((with_reducible refine own.set ?_ (fun hk_ => ?_) _); rotate_left; (next => have hk_ := l0.out _ hk_; simp at hk_; omega)) | (with_reducible refine own.alloc ?_ _))) (by repeat (first | (with_reducible exact o2.out) | ((with_reducible refine own.set ?_ (fun hk_ => ?_) _); rotate_left; (next => have hk_ := l2.out _ hk_; simp at hk_; omega)) | (with_reducible refine own.alloc ?_ _))), nod2 n0 n2 (fun a ha hb => by have h1 := u0.out a ha; have h2 := l2.out a hb; simp at h2; omega), mem2 (fun k hk => by have := l0.out k hk; simp at this; omega) (fun k hk => by have := l2.out k hk; have := hzz; (try simp at *); omega)⟩, by repeat (first | (with_reducible exact Below.refl _ _) | (with_reducible exact HB.out) | (with_reducible refine below_al ?_ _) | ((with_reducible refine Below.setCell ?_ ?_ _); rotate_left; (next => first | (simp; done) | (simp; omega))))⟩
set_option maxRecDepth 100000 in
set_option maxHeartbeats 1000000 in
theorem toStepS_calls {tStep tCase : Nat} (xs : List Step) (v : Value) (w : World) (h : rep w (StepsT tStep tCase xs) v) (hz : Step.bs xs ≤ 1048576) :
  Calls Tryz.prog 210 #[v] w (MadeV w (StepsT 121 213 xs)) := by
 obtain ⟨A, c, rfl, hc, hn⟩ := rep_len h
 have h := Asd.mk h
 have hln : xs.length ≤ 1048576 := by unfold Step.bs bsOf at hz; omega
 go_enter Tryz.func210, Tryz.ntmps210
 go_wp2_with (first | (at_make; refine mk rfl rfl Tryz.underlying109 info_Step rfl (by decide) xs.length rfl rfl rfl rfl (by omega) (by unfold maxLen; omega) (z_Step (tCase := 213)) ?_; intro w1 hown hbel hsz))
 rw [← toTo_zero (Step.c 213)] at hown
 have hown := Asd.mk hown
 go_loopw [4] (fun i wr => ∃ k : Nat, k ≤ xs.length ∧ i = .int .i64 k ∧ (∃ F, own wr (.l 121 8 xs.length (toTo (Step.c 213) ((Step.c 213) zStep) xs k)) (.slice (some ⟨w.heap.size, 0, none⟩) xs.length xs.length) F ∧ F.Nodup ∧ ∀ k ∈ F, w.heap.size ≤ k) ∧ Below w.heap.size w wr) (fun i _ => xs.length - (intOf i).toNat)
 case atStart => exact ⟨0, by omega, rfl, ⟨_, hown.out, by simp, by simp⟩, hbel⟩
 case round =>
  obtain ⟨k, hk, rfl, ⟨F, ho, hF, hFl⟩, hbr⟩ := hrel
  have ho := Asd.mk ho
  by_cases hlt : k < xs.length
  ·obtain ⟨a, c', v0, v2, he, k0, k1, k2, k3, k4, k5, k6, k7, h0, h2, hr⟩ := Step.elem (h.out.below hbr) hlt
   cases he
   obtain ⟨B0, b0, rfl, _, _⟩ := rep_len h0
   obtain ⟨B2, b2, rfl, _, _⟩ := rep_len h2
   clear h0 h2
   have hr := Asd.mk hr
   have hFl := Asd.mk hFl
   have hbk : xs[k].bk ≤ 1048576 := by have := sumTo_le Step.bk xs k hlt; unfold Step.bs bsOf at hz; omega
   go_wp2_with (first | (go_at_call 233; refine (toStep_calls xs[k] _ hr.out hbk).mono ?_; rintro e w1 ⟨us, rfl, ⟨F2, o2, n2, l2⟩, hb1⟩; have q2 := Asd.mk o2; obtain ⟨w0, G0, w2, G2, rfl, p0, p2, _⟩ := Step.oopen o2; obtain ⟨D0, d0, rfl, _, _⟩ := own_slice p0; obtain ⟨D2, d2, rfl, _, _⟩ := own_slice p2; clear p0 p2; have ho1 := own.below ho.out hb1; obtain ⟨u0, hu0, hf0⟩ := own_at ho1 (j := k * 8) (by rw [toTo_length (enc := (Step.c 213)) (zt := (Step.c 213) zStep) (sz := 8) (fun _ => rfl) rfl xs hk]; omega); obtain ⟨u1, hu1, hf1⟩ := own_at ho1 (j := k * 8 + 1) (by rw [toTo_length (enc := (Step.c 213)) (zt := (Step.c 213) zStep) (sz := 8) (fun _ => rfl) rfl xs hk]; omega); obtain ⟨u2, hu2, hf2⟩ := own_at ho1 (j := k * 8 + 2) (by rw [toTo_length (enc := (Step.c 213)) (zt := (Step.c 213) zStep) (sz := 8) (fun _ => rfl) rfl xs hk]; omega); obtain ⟨u3, hu3, hf3⟩ := own_at ho1 (j := k * 8 + 3) (by rw [toTo_length (enc := (Step.c 213)) (zt := (Step.c 213) zStep) (sz := 8) (fun _ => rfl) rfl xs hk]; omega); obtain ⟨u4, hu4, hf4⟩ := own_at ho1 (j := k * 8 + 4) (by rw [toTo_length (enc := (Step.c 213)) (zt := (Step.c 213) zStep) (sz := 8) (fun _ => rfl) rfl xs hk]; omega); obtain ⟨u5, hu5, hf5⟩ := own_at ho1 (j := k * 8 + 5) (by rw [toTo_length (enc := (Step.c 213)) (zt := (Step.c 213) zStep) (sz := 8) (fun _ => rfl) rfl xs hk]; omega); obtain ⟨u6, hu6, hf6⟩ := own_at ho1 (j := k * 8 + 6) (by rw [toTo_length (enc := (Step.c 213)) (zt := (Step.c 213) zStep) (sz := 8) (fun _ => rfl) rfl xs hk]; omega); obtain ⟨u7, hu7, hf7⟩ := own_at ho1 (j := k * 8 + 7) (by rw [toTo_length (enc := (Step.c 213)) (zt := (Step.c 213) zStep) (sz := 8) (fun _ => rfl) rfl xs hk]; omega); have ho1 := Asd.mk ho1; have l2 := Asd.mk l2; have HB := Asd.mk (below_st hbr hb1); clear hb1 o2))
   have hg : w.heap.size ∉ F2 := by intro hk; have h1 := l2.out _ hk; have h2 := own.lt ho.out w.heap.size (by obtain ⟨g_, c_, e_, hg_, _⟩ := own_form ho.out (by omega); cases e_; exact hg_); omega
   obtain ⟨F3, r1, r2, r3⟩ := own_stores (j := k * 8) ho1.out (by rw [toTo_length (enc := (Step.c 213)) (zt := (Step.c 213) zStep) (sz := 8) (fun _ => rfl) rfl xs hk]; show k * 8 + 8 ≤ xs.length * 8; omega) q2.out (by assumption)
   rw [toTo_succ (enc := (Step.c 213)) (zt := (Step.c 213) zStep) (sz := 8) (fun _ => rfl) rfl xs hlt] at r1
   simp only [setCells, Nat.add_assoc, Nat.reduceAdd] at r1
   have r1 := Asd.mk r1
   go_roundw
   case rel => exact ⟨k + 1, by omega, by go_num, ⟨F3, r1.out, r3 hF n2 (fun k hk hk' => by have h1 := l2.out k hk; have h2 := ho.out.lt k hk'; omega), fun k hk => (r2 k hk).elim (hFl.out k) (fun h => by have h1 := l2.out k h; have h2 := hbr.size; omega)⟩, by repeat (first | (with_reducible exact HB.out) | ((with_reducible refine Below.setCell ?_ ?_ _); rotate_left; (next => first | (simp; done) | (simp; omega))))⟩
   case measure => simp [intOf]; omega
  ·obtain rfl : k = xs.length := by omega
   rw [toTo_end] at ho
   have ho := Asd.mk ho.out
   go_wp2
   go_ret
   exact ⟨_, rfl, ⟨F, ho.out, hF, hFl⟩, hbr⟩
set_option maxRecDepth 100000 in
set_option maxHeartbeats 1000000 in
theorem toAction_calls {tStep tCase : Nat} (x : Action) (w : World) {vs : List Value} (h : reps w (x.c tStep tCase) vs) (hz : x.bk ≤ 1048576) :
  Calls Tryz.prog 176 #[.agg vs.toArray] w (MadeA w (x.c 121 213)) := by
 obtain ⟨v1, rfl, h1⟩ := Action.ropen h
 obtain ⟨A1, c1, rfl, _, _⟩ := rep_len h1
 replace h1 := Asd.mk h1
 clear h
 unfold Action.bk at hz
 have HB := Asd.mk (Below.refl w.heap.size w)
 go_enter Tryz.func176, Tryz.ntmps176
 go_wp2_with fail
 refine (toStepS_calls x.Steps _ _ (h1.out.below (by repeat (first | (with_reducible exact Below.refl _ _) | (with_reducible exact HB.out) | (with_reducible refine below_al ?_ _) | ((with_reducible refine Below.setCell ?_ ?_ _); rotate_left; (next => first | (simp; done) | (simp; omega)))))) (by omega)).mono ?_
 rintro e w1 ⟨v1, rfl, ⟨F1, o1, n1, l1⟩, hb1⟩
 obtain ⟨B1, b1, rfl, _, _⟩ := own_slice o1
 replace o1 := Asd.mk o1
 replace l1 := Asd.mk l1
 have u1 := Asd.mk o1.out.lt
 replace HB := Asd.mk (show Below w.heap.size w w1 from below_st (by repeat (first | (with_reducible exact Below.refl _ _) | (with_reducible exact HB.out) | (with_reducible refine below_al ?_ _) | ((with_reducible refine Below.setCell ?_ ?_ _); rotate_left; (next => first | (simp; done) | (simp; omega))))) hb1)
 obtain ⟨hcx, hfx⟩ := bcell hb1
 have hzz : w.heap.size + 1 + 1 < w1.heap.size := by have := hb1.size; (try simp at this); omega
 have hz0 : w.heap.size < w1.heap.size := by omega
 have hz1 : w.heap.size + 1 < w1.heap.size := by omega
 clear hb1
 go_wp2
 refine bodyPost_ret (v := .agg #[.int .i64 x.Cost, .slice B1 x.Steps.length b1]) (by simp [results, Tryz.results176, go_sem, *]) rfl ?_
 exact ⟨_, rfl, ⟨_, Action.omk x (by repeat (first | (with_reducible exact o1.out) | ((with_reducible refine own.set ?_ (fun hk_ => ?_) _); rotate_left; (next => have hk_ := l1.out _ hk_; simp at hk_; omega)) | (with_reducible refine own.alloc ?_ _))), n1, fun k hk => by have := l1.out k hk; simp at this; omega⟩, by repeat (first | (with_reducible exact Below.refl _ _) | (with_reducible exact HB.out) | (with_reducible refine below_al ?_ _) | ((with_reducible refine Below.setCell ?_ ?_ _); rotate_left; (next => first | (simp; done) | (simp; omega))))⟩
end Go.Proofs.YtkpkfihaihoaeaaGreatDoor.M
end
section
set_option linter.unusedVariables false
set_option linter.unusedSimpArgs false
namespace Go.Proofs.YtkpkfihaihoaeaaGreatDoor.M
open Go.RowKit

set_option maxRecDepth 100000 in
set_option maxHeartbeats 1000000 in
theorem toNode_calls {tStep tCase : Nat} (x : Node) (w : World) {vs : List Value} (h : reps w (x.c tStep tCase) vs) (hz : x.bk ≤ 1048576) :
  Calls Tryz.prog 138 #[.agg vs.toArray] w (MadeA w (x.c 121 213)) := by
 obtain ⟨v2, rfl, h2⟩ := Node.ropen h
 obtain ⟨A2, c2, rfl, _, _⟩ := rep_len h2
 replace h2 := Asd.mk h2
 clear h
 unfold Node.bk at hz
 have HB := Asd.mk (Below.refl w.heap.size w)
 go_enter Tryz.func138, Tryz.ntmps138
 go_wp2_with fail
 refine (toAction_calls x.Action _ (Action.rmk x.Action (h2.out.below (by repeat (first | (with_reducible exact Below.refl _ _) | (with_reducible exact HB.out) | (with_reducible refine below_al ?_ _) | ((with_reducible refine Below.setCell ?_ ?_ _); rotate_left; (next => first | (simp; done) | (simp; omega))))))) (by omega)).mono ?_
 rintro e w1 ⟨us, rfl, ⟨F2, o2, n2, l2⟩, hb1⟩
 obtain ⟨v2, F2, rfl, o2, rfl⟩ := Action.oopen o2
 obtain ⟨B2, b2, rfl, _, _⟩ := own_slice o2
 replace o2 := Asd.mk o2
 replace l2 := Asd.mk l2
 have u2 := Asd.mk o2.out.lt
 replace HB := Asd.mk (show Below w.heap.size w w1 from below_st (by repeat (first | (with_reducible exact Below.refl _ _) | (with_reducible exact HB.out) | (with_reducible refine below_al ?_ _) | ((with_reducible refine Below.setCell ?_ ?_ _); rotate_left; (next => first | (simp; done) | (simp; omega))))) hb1)
 obtain ⟨hcx, hfx⟩ := bcell hb1
 have hzz : w.heap.size + 1 + 1 < w1.heap.size := by have := hb1.size; (try simp at this); omega
 have hz0 : w.heap.size < w1.heap.size := by omega
 have hz1 : w.heap.size + 1 < w1.heap.size := by omega
 clear hb1
 go_wp2
 refine bodyPost_ret (v := .agg #[.string x.Name, .int .i64 x.Action.Cost, .slice B2 x.Action.Steps.length b2]) (by simp [results, Tryz.results138, go_sem, *]) rfl ?_
 exact ⟨_, rfl, ⟨_, Node.omk x (by repeat (first | (with_reducible exact o2.out) | ((with_reducible refine own.set ?_ (fun hk_ => ?_) _); rotate_left; (next => have hk_ := l2.out _ hk_; simp at hk_; omega)) | (with_reducible refine own.alloc ?_ _))), n2, fun k hk => by have := l2.out k hk; simp at this; omega⟩, by repeat (first | (with_reducible exact Below.refl _ _) | (with_reducible exact HB.out) | (with_reducible refine below_al ?_ _) | ((with_reducible refine Below.setCell ?_ ?_ _); rotate_left; (next => first | (simp; done) | (simp; omega))))⟩
set_option maxRecDepth 100000 in
set_option maxHeartbeats 1000000 in
theorem toNodeS_calls {tNode tStep tCase : Nat} (xs : List Node) (v : Value) (w : World) (h : rep w (NodesT tNode tStep tCase xs) v) (hz : Node.bs xs ≤ 1048576) :
  Calls Tryz.prog 74 #[v] w (MadeV w (NodesT 113 121 213 xs)) := by
 obtain ⟨A, c, rfl, hc, hn⟩ := rep_len h
 have h := Asd.mk h
 have hln : xs.length ≤ 1048576 := by unfold Node.bs bsOf at hz; omega
 go_enter Tryz.func74, Tryz.ntmps74
 go_wp2_with (first | (at_make; refine mk rfl rfl Tryz.underlying32 info_Node rfl (by decide) xs.length rfl rfl rfl rfl (by omega) (by unfold maxLen; omega) (z_Node (tStep := 121) (tCase := 213)) ?_; intro w1 hown hbel hsz))
 rw [← toTo_zero (Node.c 121 213)] at hown
 have hown := Asd.mk hown
 go_loopw [4] (fun i wr => ∃ k : Nat, k ≤ xs.length ∧ i = .int .i64 k ∧ (∃ F, own wr (.l 113 3 xs.length (toTo (Node.c 121 213) ((Node.c 121 213) zNode) xs k)) (.slice (some ⟨w.heap.size, 0, none⟩) xs.length xs.length) F ∧ F.Nodup ∧ ∀ k ∈ F, w.heap.size ≤ k) ∧ Below w.heap.size w wr) (fun i _ => xs.length - (intOf i).toNat)
 case atStart => exact ⟨0, by omega, rfl, ⟨_, hown.out, by simp, by simp⟩, hbel⟩
 case round =>
  obtain ⟨k, hk, rfl, ⟨F, ho, hF, hFl⟩, hbr⟩ := hrel
  have ho := Asd.mk ho
  by_cases hlt : k < xs.length
  ·obtain ⟨a, c', v2, he, k0, k1, k2, h2, hr⟩ := Node.elem (h.out.below hbr) hlt
   cases he
   obtain ⟨B2, b2, rfl, _, _⟩ := rep_len h2
   clear h2
   have hr := Asd.mk hr
   have hFl := Asd.mk hFl
   have hbk : xs[k].bk ≤ 1048576 := by have := sumTo_le Node.bk xs k hlt; unfold Node.bs bsOf at hz; omega
   go_wp2_with (first | (go_at_call 138; refine (toNode_calls xs[k] _ hr.out hbk).mono ?_; rintro e w1 ⟨us, rfl, ⟨F2, o2, n2, l2⟩, hb1⟩; have q2 := Asd.mk o2; obtain ⟨w2, G2, rfl, p2, _⟩ := Node.oopen o2; obtain ⟨D2, d2, rfl, _, _⟩ := own_slice p2; clear p2; have ho1 := own.below ho.out hb1; obtain ⟨u0, hu0, hf0⟩ := own_at ho1 (j := k * 3) (by rw [toTo_length (enc := (Node.c 121 213)) (zt := (Node.c 121 213) zNode) (sz := 3) (fun _ => rfl) rfl xs hk]; omega); obtain ⟨u1, hu1, hf1⟩ := own_at ho1 (j := k * 3 + 1) (by rw [toTo_length (enc := (Node.c 121 213)) (zt := (Node.c 121 213) zNode) (sz := 3) (fun _ => rfl) rfl xs hk]; omega); obtain ⟨u2, hu2, hf2⟩ := own_at ho1 (j := k * 3 + 2) (by rw [toTo_length (enc := (Node.c 121 213)) (zt := (Node.c 121 213) zNode) (sz := 3) (fun _ => rfl) rfl xs hk]; omega); have ho1 := Asd.mk ho1; have l2 := Asd.mk l2; have HB := Asd.mk (below_st hbr hb1); clear hb1 o2))
   have hg : w.heap.size ∉ F2 := by intro hk; have h1 := l2.out _ hk; have h2 := own.lt ho.out w.heap.size (by obtain ⟨g_, c_, e_, hg_, _⟩ := own_form ho.out (by omega); cases e_; exact hg_); omega
   obtain ⟨F3, r1, r2, r3⟩ := own_stores (j := k * 3) ho1.out (by rw [toTo_length (enc := (Node.c 121 213)) (zt := (Node.c 121 213) zNode) (sz := 3) (fun _ => rfl) rfl xs hk]; show k * 3 + 3 ≤ xs.length * 3; omega) q2.out (by assumption)
   rw [toTo_succ (enc := (Node.c 121 213)) (zt := (Node.c 121 213) zNode) (sz := 3) (fun _ => rfl) rfl xs hlt] at r1
   simp only [setCells, Nat.add_assoc, Nat.reduceAdd] at r1
   have r1 := Asd.mk r1
   go_roundw
   case rel => exact ⟨k + 1, by omega, by go_num, ⟨F3, r1.out, r3 hF n2 (fun k hk hk' => by have h1 := l2.out k hk; have h2 := ho.out.lt k hk'; omega), fun k hk => (r2 k hk).elim (hFl.out k) (fun h => by have h1 := l2.out k h; have h2 := hbr.size; omega)⟩, by repeat (first | (with_reducible exact HB.out) | ((with_reducible refine Below.setCell ?_ ?_ _); rotate_left; (next => first | (simp; done) | (simp; omega))))⟩
   case measure => simp [intOf]; omega
  ·obtain rfl : k = xs.length := by omega
   rw [toTo_end] at ho
   have ho := Asd.mk ho.out
   go_wp2
   go_ret
   exact ⟨_, rfl, ⟨F, ho.out, hF, hFl⟩, hbr⟩
set_option maxRecDepth 100000 in
set_option maxHeartbeats 1000000 in
theorem toWeb_calls {tNode tStep tCase : Nat} (x : Web) (w : World) {vs : List Value} (h : reps w (x.c tNode tStep tCase) vs) (hz : x.bk ≤ 1048576) :
  Calls Tryz.prog 18 #[.agg vs.toArray] w (MadeA w (x.c 113 121 213)) := by
 obtain ⟨v0, rfl, h0⟩ := Web.ropen h
 obtain ⟨A0, c0, rfl, _, _⟩ := rep_len h0
 replace h0 := Asd.mk h0
 clear h
 unfold Web.bk at hz
 have HB := Asd.mk (Below.refl w.heap.size w)
 go_enter Tryz.func18, Tryz.ntmps18
 go_wp2_with fail
 refine (toNodeS_calls x.Nodes _ _ (h0.out.below (by repeat (first | (with_reducible exact Below.refl _ _) | (with_reducible exact HB.out) | (with_reducible refine below_al ?_ _) | ((with_reducible refine Below.setCell ?_ ?_ _); rotate_left; (next => first | (simp; done) | (simp; omega)))))) (by omega)).mono ?_
 rintro e w1 ⟨v0, rfl, ⟨F0, o0, n0, l0⟩, hb1⟩
 obtain ⟨B0, b0, rfl, _, _⟩ := own_slice o0
 replace o0 := Asd.mk o0
 replace l0 := Asd.mk l0
 have u0 := Asd.mk o0.out.lt
 replace HB := Asd.mk (show Below w.heap.size w w1 from below_st (by repeat (first | (with_reducible exact Below.refl _ _) | (with_reducible exact HB.out) | (with_reducible refine below_al ?_ _) | ((with_reducible refine Below.setCell ?_ ?_ _); rotate_left; (next => first | (simp; done) | (simp; omega))))) hb1)
 obtain ⟨hcx, hfx⟩ := bcell hb1
 have hzz : w.heap.size + 1 + 1 < w1.heap.size := by have := hb1.size; (try simp at this); omega
 have hz0 : w.heap.size < w1.heap.size := by omega
 have hz1 : w.heap.size + 1 < w1.heap.size := by omega
 clear hb1
 go_wp2
 refine bodyPost_ret (v := .agg #[.slice B0 x.Nodes.length b0]) (by simp [results, Tryz.results18, go_sem, *]) rfl ?_
 exact ⟨_, rfl, ⟨_, Web.omk x (by repeat (first | (with_reducible exact o0.out) | ((with_reducible refine own.set ?_ (fun hk_ => ?_) _); rotate_left; (next => have hk_ := l0.out _ hk_; simp at hk_; omega)) | (with_reducible refine own.alloc ?_ _))), n0, fun k hk => by have := l0.out k hk; simp at this; omega⟩, by repeat (first | (with_reducible exact Below.refl _ _) | (with_reducible exact HB.out) | (with_reducible refine below_al ?_ _) | ((with_reducible refine Below.setCell ?_ ?_ _); rotate_left; (next => first | (simp; done) | (simp; omega))))⟩
end Go.Proofs.YtkpkfihaihoaeaaGreatDoor.M
end
section
set_option linter.unusedVariables false
set_option linter.unusedSimpArgs false
namespace Go.Proofs.YtkpkfihaihoaeaaGreatDoor.M
open Go.RowKit

def eqB {α : Type} [DecidableEq α] (a b : α) : Bool := decide (a = b)
theorem eqB_of {α : Type} [DecidableEq α] {a b : α} (h : eqB a b = true) : a = b := of_decide_eq_true h
theorem eqB_ne {α : Type} [DecidableEq α] {a b : α} (h : eqB a b = false) : a ≠ b := of_decide_eq_false h
theorem eqB_yes {α : Type} [DecidableEq α] {a b : α} (h : a = b) : eqB a b = true := decide_eq_true h
theorem eqB_no {α : Type} [DecidableEq α] {a b : α} (h : a ≠ b) : eqB a b = false := decide_eq_false h
theorem eqB_int (a b : Int) : (a != b) = !eqB a b := by unfold eqB; by_cases h : a = b <;> simp [h]
theorem eqB_bool (a b : Bool) : (a != b) = !eqB a b := by cases a <;> cases b <;> rfl
theorem eqB_bool2 (a b : Bool) : (a == b) = eqB a b := by cases a <;> cases b <;> rfl
theorem eqB_str (a b : ByteArray) : (a.toList == b.toList) = eqB a b := by
 unfold eqB; rw [Bool.eq_iff_iff]; simp only [decide_eq_true_eq]; exact ba_eq a b
theorem eqB_str2 (a b : ByteArray) : (a.toList != b.toList) = !eqB a b := by show (!(a.toList == b.toList)) = _; rw [eqB_str]
def eqTo {α : Type} (xs ys : List α) (k : Nat) : Prop := xs.take k = ys.take k
theorem eqTo_zero {α : Type} (xs ys : List α) : eqTo xs ys 0 := by simp [eqTo]
theorem eqTo_succ {α : Type} {xs ys : List α} {k : Nat} (h : eqTo xs ys k) (h1 : k < xs.length) (h2 : k < ys.length) (e : xs[k] = ys[k]) : eqTo xs ys (k + 1) := by
 unfold eqTo at *; rw [List.take_succ_eq_append_getElem h1, List.take_succ_eq_append_getElem h2, h, e]
theorem eqTo_end {α : Type} {xs ys : List α} (hl : xs.length = ys.length) (h : eqTo xs ys xs.length) : xs = ys := by
 unfold eqTo at h; rwa [List.take_length, hl, List.take_length] at h
theorem ne_at {α : Type} {xs ys : List α} {k : Nat} (h1 : k < xs.length) (h2 : k < ys.length) (e : xs[k] ≠ ys[k]) : xs ≠ ys := by
 rintro rfl; exact e rfl
set_option maxHeartbeats 1000000 in
theorem eqStringS_calls {t t' : Nat} (xs ys : List ByteArray) (v u : Value) (w : World) (h : rep w (strsT t xs) v) (h' : rep w (strsT t' ys) u) :
  Calls Tryz.prog 29 #[v, u] w fun e w' => e = .returned (.bool (eqB xs ys)) ∧ Below w.heap.size w w' := by
 obtain ⟨A, c, rfl, hc, hn⟩ := rep_len h
 obtain ⟨A', c', rfl, hc', hn'⟩ := rep_len h'
 replace h := Asd.mk h
 replace h' := Asd.mk h'
 by_cases hl : xs.length = ys.length
 rotate_left
 ·have e1 := Hid.mk' (eqB_no (fun e => hl (congrArg List.length e)) : eqB xs ys = false)
  have hb : ((xs.length : Int) != (ys.length : Int)) = true := by simp; omega
  replace hl := Hid.mk' hl
  go_enter Tryz.func29, Tryz.ntmps29
  go_wp2
  go_ret
  exact ⟨by rw [e1.out]; rfl, Below.refl _ _⟩
 have hb : ((xs.length : Int) != (ys.length : Int)) = false := by simp; omega
 replace hl := Hid.mk' hl
 go_enter Tryz.func29, Tryz.ntmps29
 go_wp2
 go_loopw [5] (fun i wr => ∃ k : Nat, k ≤ xs.length ∧ i = .int .i64 k ∧ eqTo xs ys k ∧ Below w.heap.size w wr) (fun i _ => xs.length - (intOf i).toNat)
 case atStart => exact ⟨0, by omega, rfl, eqTo_zero _ _, Below.refl _ _⟩
 case round =>
  obtain ⟨k, hk, rfl, hA, hbr⟩ := hrel
  by_cases hlt : k < xs.length
  ·have hlt' : k < ys.length := by have := hl.out; omega
   obtain ⟨a, d, he, hcell⟩ := str_elem (h.out.below hbr) hlt
   cases he
   obtain ⟨a, d, he, hcell'⟩ := str_elem (h'.out.below hbr) hlt'
   cases he
   have r1 := eqB_str xs[k] ys[k]
   have r2 := eqB_str2 xs[k] ys[k]
   cases hq : eqB xs[k] ys[k] with
   | true =>
    have e1 := eqTo_succ hA hlt hlt' (eqB_of hq)
    go_wp2
    go_quiet (fail)
    go_wp2
    go_roundw
    case rel => exact ⟨k + 1, by omega, by go_num, e1, below_dr hbr _⟩
    case measure => simp [intOf]; omega
   | false =>
    have e1 := Hid.mk' (eqB_no (ne_at hlt hlt' (eqB_ne hq)) : eqB xs ys = false)
    go_wp2
    go_quiet (fail)
    go_wp2
    go_ret
    exact ⟨by rw [e1.out]; rfl, below_dr hbr _⟩
  ·obtain rfl : k = xs.length := by omega
   have e1 := Hid.mk' (eqB_yes (eqTo_end hl.out hA))
   go_wp2
   go_ret
   exact ⟨by rw [e1.out]; rfl, hbr⟩
end Go.Proofs.YtkpkfihaihoaeaaGreatDoor.M
end
section
set_option linter.unusedVariables false
set_option linter.unusedSimpArgs false
namespace Go.Proofs.YtkpkfihaihoaeaaGreatDoor.M
open Go.RowKit

set_option maxRecDepth 100000 in
set_option maxHeartbeats 2000000 in
theorem eqCase_calls (x y : Case) (w : World) {vs us : List Value} (h : reps w (x.c) vs) (h' : reps w (y.c) us) :
  Calls Tryz.prog 262 #[.agg vs.toArray, .agg us.toArray] w fun e w' => e = .returned (.bool (eqB x y)) ∧ Below w.heap.size w w' := by
 obtain rfl := Case.ropen h
 obtain rfl := Case.ropen h'
 clear h h'
 have r_Text := eqB_str x.Text y.Text
 have s_Text := eqB_str2 x.Text y.Text
 have r_Goto := eqB_int x.Goto y.Goto
 rcases Bool.eq_false_or_eq_true (eqB x.Text y.Text) with q_Text | q_Text
 rotate_left
 ·have e1 := Hid.mk' (eqB_no (fun e => eqB_ne q_Text (congrArg Case.Text e)) : eqB x y = false)
  go_enter Tryz.func262, Tryz.ntmps262
  go_wp2
  go_ret
  exact ⟨by rw [e1.out]; rfl, by first | exact ((Below.refl _ _).alloc (Nat.le_refl _) _).alloc (by simp) _ | exact HB.out⟩
 rcases Bool.eq_false_or_eq_true (eqB x.Goto y.Goto) with q_Goto | q_Goto
 rotate_left
 ·have e1 := Hid.mk' (eqB_no (fun e => eqB_ne q_Goto (congrArg Case.Goto e)) : eqB x y = false)
  go_enter Tryz.func262, Tryz.ntmps262
  go_wp2
  go_ret
  exact ⟨by rw [e1.out]; rfl, by first | exact ((Below.refl _ _).alloc (Nat.le_refl _) _).alloc (by simp) _ | exact HB.out⟩
 have e1 := Hid.mk' (eqB_yes (show x = y by cases x; cases y; simp only [Case.mk.injEq]; exact ⟨eqB_of q_Text, eqB_of q_Goto⟩) : eqB x y = true)
 go_enter Tryz.func262, Tryz.ntmps262
 go_wp2
 go_ret
 exact ⟨by rw [e1.out]; rfl, by first | exact ((Below.refl _ _).alloc (Nat.le_refl _) _).alloc (by simp) _ | exact HB.out⟩
set_option maxRecDepth 100000 in
set_option maxHeartbeats 2000000 in
theorem eqCaseS_calls {tCase tCase' : Nat} (xs ys : List Case) (v u : Value) (w : World) (h : rep w (CasesT tCase xs) v) (h' : rep w (CasesT tCase' ys) u) :
  Calls Tryz.prog 252 #[v, u] w fun e w' => e = .returned (.bool (eqB xs ys)) ∧ Below w.heap.size w w' := by
 obtain ⟨A, c, rfl, hc, hn⟩ := rep_len h
 obtain ⟨A', c', rfl, hc', hn'⟩ := rep_len h'
 replace h := Asd.mk h
 replace h' := Asd.mk h'
 by_cases hl : xs.length = ys.length
 rotate_left
 ·have e1 := Hid.mk' (eqB_no (fun e => hl (congrArg List.length e)) : eqB xs ys = false)
  have hb : ((xs.length : Int) != (ys.length : Int)) = true := by simp; omega
  replace hl := Hid.mk' hl
  go_enter Tryz.func252, Tryz.ntmps252
  go_wp2
  go_ret
  exact ⟨by rw [e1.out]; rfl, Below.refl _ _⟩
 have hb : ((xs.length : Int) != (ys.length : Int)) = false := by simp; omega
 replace hl := Hid.mk' hl
 go_enter Tryz.func252, Tryz.ntmps252
 go_wp2
 go_loopw [5] (fun i wr => ∃ k : Nat, k ≤ xs.length ∧ i = .int .i64 k ∧ eqTo xs ys k ∧ Below w.heap.size w wr) (fun i _ => xs.length - (intOf i).toNat)
 case atStart => exact ⟨0, by omega, rfl, eqTo_zero _ _, Below.refl _ _⟩
 case round =>
  obtain ⟨k, hk, rfl, hA, hbr⟩ := hrel
  by_cases hlt : k < xs.length
  ·have hlt' : k < ys.length := by have := hl.out; omega
   obtain ⟨a, c', he, k0, k1, hr⟩ := Case.elem (h.out.below hbr) hlt
   cases he
   replace hr := Asd.mk hr
   obtain ⟨a, d', he, m0, m1, gr⟩ := Case.elem (h'.out.below hbr) hlt'
   cases he
   replace gr := Asd.mk gr
   cases hq : eqB xs[k] ys[k] with
   | true =>
    have e1 := eqTo_succ hA hlt hlt' (eqB_of hq)
    go_wp2
    go_still_tail 8, (by kernel_rfl)
    change wpList _ _ _ _ _ wr.drew
    go_wp2_with (first | (go_at_call 262; refine (eqCase_calls xs[k] ys[k] _ (hr.out.below (by exact Below.drew (Below.refl _ _))) (gr.out.below (by exact Below.drew (Below.refl _ _)))).mono ?_; rintro e w1 ⟨rfl, hb1⟩))
    go_roundw
    case rel => exact ⟨k + 1, by omega, by go_num, e1, below_st hbr.drew hb1⟩
    case measure => simp [intOf]; omega
   | false =>
    have e1 := Hid.mk' (eqB_no (ne_at hlt hlt' (eqB_ne hq)) : eqB xs ys = false)
    go_wp2
    go_still_tail 8, (by kernel_rfl)
    change wpList _ _ _ _ _ wr.drew
    go_wp2_with (first | (go_at_call 262; refine (eqCase_calls xs[k] ys[k] _ (hr.out.below (by exact Below.drew (Below.refl _ _))) (gr.out.below (by exact Below.drew (Below.refl _ _)))).mono ?_; rintro e w1 ⟨rfl, hb1⟩))
    go_ret
    exact ⟨by rw [e1.out]; rfl, below_st hbr.drew hb1⟩
  ·obtain rfl : k = xs.length := by omega
   have e1 := Hid.mk' (eqB_yes (eqTo_end hl.out hA))
   go_wp2
   go_ret
   exact ⟨by rw [e1.out]; rfl, hbr⟩
set_option maxRecDepth 100000 in
set_option maxHeartbeats 2000000 in
theorem eqStep_calls {tCase tCase' : Nat} (x y : Step) (w : World) {vs us : List Value} (h : reps w (x.c tCase) vs) (h' : reps w (y.c tCase') us) :
  Calls Tryz.prog 234 #[.agg vs.toArray, .agg us.toArray] w fun e w' => e = .returned (.bool (eqB x y)) ∧ Below w.heap.size w w' := by
 obtain ⟨v0, v2, rfl, h0, h2⟩ := Step.ropen h
 obtain ⟨u0, u2, rfl, g0, g2⟩ := Step.ropen h'
 obtain ⟨A0, c0, rfl, _, _⟩ := rep_len h0
 replace h0 := Asd.mk h0
 obtain ⟨B0, b0, rfl, _, _⟩ := rep_len g0
 replace g0 := Asd.mk g0
 obtain ⟨A2, c2, rfl, _, _⟩ := rep_len h2
 replace h2 := Asd.mk h2
 obtain ⟨B2, b2, rfl, _, _⟩ := rep_len g2
 replace g2 := Asd.mk g2
 clear h h'
 have r_On := eqB_int x.On y.On
 have r_Else := eqB_int x.Else y.Else
 have r_Fall := eqB_int x.Fall y.Fall
 have r_End := eqB_bool x.End y.End
 have s_End := eqB_bool2 x.End y.End
 have r_Bad := eqB_bool x.Bad y.Bad
 have s_Bad := eqB_bool2 x.Bad y.Bad
 have r_Give := eqB_str x.Give y.Give
 have s_Give := eqB_str2 x.Give y.Give
 rcases Bool.eq_false_or_eq_true (eqB x.Asks y.Asks) with q_Asks | q_Asks
 rotate_left
 ·have e1 := Hid.mk' (eqB_no (fun e => eqB_ne q_Asks (congrArg Step.Asks e)) : eqB x y = false)
  go_enter Tryz.func234, Tryz.ntmps234
  go_wp2_with (first | (go_at_call 29; refine (eqStringS_calls x.Asks y.Asks _ _ _ (h0.out.below (by first | exact ((Below.refl _ _).alloc (Nat.le_refl _) _).alloc (by simp) _ | exact HB.out)) (g0.out.below (by first | exact ((Below.refl _ _).alloc (Nat.le_refl _) _).alloc (by simp) _ | exact HB.out))).mono ?_; rintro e w1 ⟨rfl, hb1⟩; obtain ⟨hcx, hfx⟩ := bcell hb1; have hz1 : w.heap.size + 1 < w1.heap.size := (by have := hb1.size; (try simp at this); omega); have hz0 : w.heap.size < w1.heap.size := (by omega); have HB := Asd.mk (show Below w.heap.size w w1 from by first | exact below_st (((Below.refl _ _).alloc (Nat.le_refl _) _).alloc (by simp) _) hb1 | exact below_st HB.out hb1); clear hb1) | (go_at_call 252; refine (eqCaseS_calls x.Cases y.Cases _ _ _ (h2.out.below (by first | exact ((Below.refl _ _).alloc (Nat.le_refl _) _).alloc (by simp) _ | exact HB.out)) (g2.out.below (by first | exact ((Below.refl _ _).alloc (Nat.le_refl _) _).alloc (by simp) _ | exact HB.out))).mono ?_; rintro e w1 ⟨rfl, hb1⟩; obtain ⟨hcx, hfx⟩ := bcell hb1; have hz1 : w.heap.size + 1 < w1.heap.size := (by have := hb1.size; (try simp at this); omega); have hz0 : w.heap.size < w1.heap.size := (by omega); have HB := Asd.mk (show Below w.heap.size w w1 from by first | exact below_st (((Below.refl _ _).alloc (Nat.le_refl _) _).alloc (by simp) _) hb1 | exact below_st HB.out hb1); clear hb1))
  go_ret
  exact ⟨by rw [e1.out]; rfl, by first | exact ((Below.refl _ _).alloc (Nat.le_refl _) _).alloc (by simp) _ | exact HB.out⟩
 rcases Bool.eq_false_or_eq_true (eqB x.On y.On) with q_On | q_On
 rotate_left
 ·have e1 := Hid.mk' (eqB_no (fun e => eqB_ne q_On (congrArg Step.On e)) : eqB x y = false)
  go_enter Tryz.func234, Tryz.ntmps234
  go_wp2_with (first | (go_at_call 29; refine (eqStringS_calls x.Asks y.Asks _ _ _ (h0.out.below (by first | exact ((Below.refl _ _).alloc (Nat.le_refl _) _).alloc (by simp) _ | exact HB.out)) (g0.out.below (by first | exact ((Below.refl _ _).alloc (Nat.le_refl _) _).alloc (by simp) _ | exact HB.out))).mono ?_; rintro e w1 ⟨rfl, hb1⟩; obtain ⟨hcx, hfx⟩ := bcell hb1; have hz1 : w.heap.size + 1 < w1.heap.size := (by have := hb1.size; (try simp at this); omega); have hz0 : w.heap.size < w1.heap.size := (by omega); have HB := Asd.mk (show Below w.heap.size w w1 from by first | exact below_st (((Below.refl _ _).alloc (Nat.le_refl _) _).alloc (by simp) _) hb1 | exact below_st HB.out hb1); clear hb1) | (go_at_call 252; refine (eqCaseS_calls x.Cases y.Cases _ _ _ (h2.out.below (by first | exact ((Below.refl _ _).alloc (Nat.le_refl _) _).alloc (by simp) _ | exact HB.out)) (g2.out.below (by first | exact ((Below.refl _ _).alloc (Nat.le_refl _) _).alloc (by simp) _ | exact HB.out))).mono ?_; rintro e w1 ⟨rfl, hb1⟩; obtain ⟨hcx, hfx⟩ := bcell hb1; have hz1 : w.heap.size + 1 < w1.heap.size := (by have := hb1.size; (try simp at this); omega); have hz0 : w.heap.size < w1.heap.size := (by omega); have HB := Asd.mk (show Below w.heap.size w w1 from by first | exact below_st (((Below.refl _ _).alloc (Nat.le_refl _) _).alloc (by simp) _) hb1 | exact below_st HB.out hb1); clear hb1))
  go_ret
  exact ⟨by rw [e1.out]; rfl, by first | exact ((Below.refl _ _).alloc (Nat.le_refl _) _).alloc (by simp) _ | exact HB.out⟩
 rcases Bool.eq_false_or_eq_true (eqB x.Cases y.Cases) with q_Cases | q_Cases
 rotate_left
 ·have e1 := Hid.mk' (eqB_no (fun e => eqB_ne q_Cases (congrArg Step.Cases e)) : eqB x y = false)
  go_enter Tryz.func234, Tryz.ntmps234
  go_wp2_with (first | (go_at_call 29; refine (eqStringS_calls x.Asks y.Asks _ _ _ (h0.out.below (by first | exact ((Below.refl _ _).alloc (Nat.le_refl _) _).alloc (by simp) _ | exact HB.out)) (g0.out.below (by first | exact ((Below.refl _ _).alloc (Nat.le_refl _) _).alloc (by simp) _ | exact HB.out))).mono ?_; rintro e w1 ⟨rfl, hb1⟩; obtain ⟨hcx, hfx⟩ := bcell hb1; have hz1 : w.heap.size + 1 < w1.heap.size := (by have := hb1.size; (try simp at this); omega); have hz0 : w.heap.size < w1.heap.size := (by omega); have HB := Asd.mk (show Below w.heap.size w w1 from by first | exact below_st (((Below.refl _ _).alloc (Nat.le_refl _) _).alloc (by simp) _) hb1 | exact below_st HB.out hb1); clear hb1) | (go_at_call 252; refine (eqCaseS_calls x.Cases y.Cases _ _ _ (h2.out.below (by first | exact ((Below.refl _ _).alloc (Nat.le_refl _) _).alloc (by simp) _ | exact HB.out)) (g2.out.below (by first | exact ((Below.refl _ _).alloc (Nat.le_refl _) _).alloc (by simp) _ | exact HB.out))).mono ?_; rintro e w1 ⟨rfl, hb1⟩; obtain ⟨hcx, hfx⟩ := bcell hb1; have hz1 : w.heap.size + 1 < w1.heap.size := (by have := hb1.size; (try simp at this); omega); have hz0 : w.heap.size < w1.heap.size := (by omega); have HB := Asd.mk (show Below w.heap.size w w1 from by first | exact below_st (((Below.refl _ _).alloc (Nat.le_refl _) _).alloc (by simp) _) hb1 | exact below_st HB.out hb1); clear hb1))
  go_ret
  exact ⟨by rw [e1.out]; rfl, by first | exact ((Below.refl _ _).alloc (Nat.le_refl _) _).alloc (by simp) _ | exact HB.out⟩
 rcases Bool.eq_false_or_eq_true (eqB x.Else y.Else) with q_Else | q_Else
 rotate_left
 ·have e1 := Hid.mk' (eqB_no (fun e => eqB_ne q_Else (congrArg Step.Else e)) : eqB x y = false)
  go_enter Tryz.func234, Tryz.ntmps234
  go_wp2_with (first | (go_at_call 29; refine (eqStringS_calls x.Asks y.Asks _ _ _ (h0.out.below (by first | exact ((Below.refl _ _).alloc (Nat.le_refl _) _).alloc (by simp) _ | exact HB.out)) (g0.out.below (by first | exact ((Below.refl _ _).alloc (Nat.le_refl _) _).alloc (by simp) _ | exact HB.out))).mono ?_; rintro e w1 ⟨rfl, hb1⟩; obtain ⟨hcx, hfx⟩ := bcell hb1; have hz1 : w.heap.size + 1 < w1.heap.size := (by have := hb1.size; (try simp at this); omega); have hz0 : w.heap.size < w1.heap.size := (by omega); have HB := Asd.mk (show Below w.heap.size w w1 from by first | exact below_st (((Below.refl _ _).alloc (Nat.le_refl _) _).alloc (by simp) _) hb1 | exact below_st HB.out hb1); clear hb1) | (go_at_call 252; refine (eqCaseS_calls x.Cases y.Cases _ _ _ (h2.out.below (by first | exact ((Below.refl _ _).alloc (Nat.le_refl _) _).alloc (by simp) _ | exact HB.out)) (g2.out.below (by first | exact ((Below.refl _ _).alloc (Nat.le_refl _) _).alloc (by simp) _ | exact HB.out))).mono ?_; rintro e w1 ⟨rfl, hb1⟩; obtain ⟨hcx, hfx⟩ := bcell hb1; have hz1 : w.heap.size + 1 < w1.heap.size := (by have := hb1.size; (try simp at this); omega); have hz0 : w.heap.size < w1.heap.size := (by omega); have HB := Asd.mk (show Below w.heap.size w w1 from by first | exact below_st (((Below.refl _ _).alloc (Nat.le_refl _) _).alloc (by simp) _) hb1 | exact below_st HB.out hb1); clear hb1))
  go_ret
  exact ⟨by rw [e1.out]; rfl, by first | exact ((Below.refl _ _).alloc (Nat.le_refl _) _).alloc (by simp) _ | exact HB.out⟩
 rcases Bool.eq_false_or_eq_true (eqB x.Fall y.Fall) with q_Fall | q_Fall
 rotate_left
 ·have e1 := Hid.mk' (eqB_no (fun e => eqB_ne q_Fall (congrArg Step.Fall e)) : eqB x y = false)
  go_enter Tryz.func234, Tryz.ntmps234
  go_wp2_with (first | (go_at_call 29; refine (eqStringS_calls x.Asks y.Asks _ _ _ (h0.out.below (by first | exact ((Below.refl _ _).alloc (Nat.le_refl _) _).alloc (by simp) _ | exact HB.out)) (g0.out.below (by first | exact ((Below.refl _ _).alloc (Nat.le_refl _) _).alloc (by simp) _ | exact HB.out))).mono ?_; rintro e w1 ⟨rfl, hb1⟩; obtain ⟨hcx, hfx⟩ := bcell hb1; have hz1 : w.heap.size + 1 < w1.heap.size := (by have := hb1.size; (try simp at this); omega); have hz0 : w.heap.size < w1.heap.size := (by omega); have HB := Asd.mk (show Below w.heap.size w w1 from by first | exact below_st (((Below.refl _ _).alloc (Nat.le_refl _) _).alloc (by simp) _) hb1 | exact below_st HB.out hb1); clear hb1) | (go_at_call 252; refine (eqCaseS_calls x.Cases y.Cases _ _ _ (h2.out.below (by first | exact ((Below.refl _ _).alloc (Nat.le_refl _) _).alloc (by simp) _ | exact HB.out)) (g2.out.below (by first | exact ((Below.refl _ _).alloc (Nat.le_refl _) _).alloc (by simp) _ | exact HB.out))).mono ?_; rintro e w1 ⟨rfl, hb1⟩; obtain ⟨hcx, hfx⟩ := bcell hb1; have hz1 : w.heap.size + 1 < w1.heap.size := (by have := hb1.size; (try simp at this); omega); have hz0 : w.heap.size < w1.heap.size := (by omega); have HB := Asd.mk (show Below w.heap.size w w1 from by first | exact below_st (((Below.refl _ _).alloc (Nat.le_refl _) _).alloc (by simp) _) hb1 | exact below_st HB.out hb1); clear hb1))
  go_ret
  exact ⟨by rw [e1.out]; rfl, by first | exact ((Below.refl _ _).alloc (Nat.le_refl _) _).alloc (by simp) _ | exact HB.out⟩
 rcases Bool.eq_false_or_eq_true (eqB x.End y.End) with q_End | q_End
 rotate_left
 ·have e1 := Hid.mk' (eqB_no (fun e => eqB_ne q_End (congrArg Step.End e)) : eqB x y = false)
  go_enter Tryz.func234, Tryz.ntmps234
  go_wp2_with (first | (go_at_call 29; refine (eqStringS_calls x.Asks y.Asks _ _ _ (h0.out.below (by first | exact ((Below.refl _ _).alloc (Nat.le_refl _) _).alloc (by simp) _ | exact HB.out)) (g0.out.below (by first | exact ((Below.refl _ _).alloc (Nat.le_refl _) _).alloc (by simp) _ | exact HB.out))).mono ?_; rintro e w1 ⟨rfl, hb1⟩; obtain ⟨hcx, hfx⟩ := bcell hb1; have hz1 : w.heap.size + 1 < w1.heap.size := (by have := hb1.size; (try simp at this); omega); have hz0 : w.heap.size < w1.heap.size := (by omega); have HB := Asd.mk (show Below w.heap.size w w1 from by first | exact below_st (((Below.refl _ _).alloc (Nat.le_refl _) _).alloc (by simp) _) hb1 | exact below_st HB.out hb1); clear hb1) | (go_at_call 252; refine (eqCaseS_calls x.Cases y.Cases _ _ _ (h2.out.below (by first | exact ((Below.refl _ _).alloc (Nat.le_refl _) _).alloc (by simp) _ | exact HB.out)) (g2.out.below (by first | exact ((Below.refl _ _).alloc (Nat.le_refl _) _).alloc (by simp) _ | exact HB.out))).mono ?_; rintro e w1 ⟨rfl, hb1⟩; obtain ⟨hcx, hfx⟩ := bcell hb1; have hz1 : w.heap.size + 1 < w1.heap.size := (by have := hb1.size; (try simp at this); omega); have hz0 : w.heap.size < w1.heap.size := (by omega); have HB := Asd.mk (show Below w.heap.size w w1 from by first | exact below_st (((Below.refl _ _).alloc (Nat.le_refl _) _).alloc (by simp) _) hb1 | exact below_st HB.out hb1); clear hb1))
  go_ret
  exact ⟨by rw [e1.out]; rfl, by first | exact ((Below.refl _ _).alloc (Nat.le_refl _) _).alloc (by simp) _ | exact HB.out⟩
 rcases Bool.eq_false_or_eq_true (eqB x.Bad y.Bad) with q_Bad | q_Bad
 rotate_left
 ·have e1 := Hid.mk' (eqB_no (fun e => eqB_ne q_Bad (congrArg Step.Bad e)) : eqB x y = false)
  go_enter Tryz.func234, Tryz.ntmps234
  go_wp2_with (first | (go_at_call 29; refine (eqStringS_calls x.Asks y.Asks _ _ _ (h0.out.below (by first | exact ((Below.refl _ _).alloc (Nat.le_refl _) _).alloc (by simp) _ | exact HB.out)) (g0.out.below (by first | exact ((Below.refl _ _).alloc (Nat.le_refl _) _).alloc (by simp) _ | exact HB.out))).mono ?_; rintro e w1 ⟨rfl, hb1⟩; obtain ⟨hcx, hfx⟩ := bcell hb1; have hz1 : w.heap.size + 1 < w1.heap.size := (by have := hb1.size; (try simp at this); omega); have hz0 : w.heap.size < w1.heap.size := (by omega); have HB := Asd.mk (show Below w.heap.size w w1 from by first | exact below_st (((Below.refl _ _).alloc (Nat.le_refl _) _).alloc (by simp) _) hb1 | exact below_st HB.out hb1); clear hb1) | (go_at_call 252; refine (eqCaseS_calls x.Cases y.Cases _ _ _ (h2.out.below (by first | exact ((Below.refl _ _).alloc (Nat.le_refl _) _).alloc (by simp) _ | exact HB.out)) (g2.out.below (by first | exact ((Below.refl _ _).alloc (Nat.le_refl _) _).alloc (by simp) _ | exact HB.out))).mono ?_; rintro e w1 ⟨rfl, hb1⟩; obtain ⟨hcx, hfx⟩ := bcell hb1; have hz1 : w.heap.size + 1 < w1.heap.size := (by have := hb1.size; (try simp at this); omega); have hz0 : w.heap.size < w1.heap.size := (by omega); have HB := Asd.mk (show Below w.heap.size w w1 from by first | exact below_st (((Below.refl _ _).alloc (Nat.le_refl _) _).alloc (by simp) _) hb1 | exact below_st HB.out hb1); clear hb1))
  go_ret
  exact ⟨by rw [e1.out]; rfl, by first | exact ((Below.refl _ _).alloc (Nat.le_refl _) _).alloc (by simp) _ | exact HB.out⟩
 rcases Bool.eq_false_or_eq_true (eqB x.Give y.Give) with q_Give | q_Give
 rotate_left
 ·have e1 := Hid.mk' (eqB_no (fun e => eqB_ne q_Give (congrArg Step.Give e)) : eqB x y = false)
  go_enter Tryz.func234, Tryz.ntmps234
  go_wp2_with (first | (go_at_call 29; refine (eqStringS_calls x.Asks y.Asks _ _ _ (h0.out.below (by first | exact ((Below.refl _ _).alloc (Nat.le_refl _) _).alloc (by simp) _ | exact HB.out)) (g0.out.below (by first | exact ((Below.refl _ _).alloc (Nat.le_refl _) _).alloc (by simp) _ | exact HB.out))).mono ?_; rintro e w1 ⟨rfl, hb1⟩; obtain ⟨hcx, hfx⟩ := bcell hb1; have hz1 : w.heap.size + 1 < w1.heap.size := (by have := hb1.size; (try simp at this); omega); have hz0 : w.heap.size < w1.heap.size := (by omega); have HB := Asd.mk (show Below w.heap.size w w1 from by first | exact below_st (((Below.refl _ _).alloc (Nat.le_refl _) _).alloc (by simp) _) hb1 | exact below_st HB.out hb1); clear hb1) | (go_at_call 252; refine (eqCaseS_calls x.Cases y.Cases _ _ _ (h2.out.below (by first | exact ((Below.refl _ _).alloc (Nat.le_refl _) _).alloc (by simp) _ | exact HB.out)) (g2.out.below (by first | exact ((Below.refl _ _).alloc (Nat.le_refl _) _).alloc (by simp) _ | exact HB.out))).mono ?_; rintro e w1 ⟨rfl, hb1⟩; obtain ⟨hcx, hfx⟩ := bcell hb1; have hz1 : w.heap.size + 1 < w1.heap.size := (by have := hb1.size; (try simp at this); omega); have hz0 : w.heap.size < w1.heap.size := (by omega); have HB := Asd.mk (show Below w.heap.size w w1 from by first | exact below_st (((Below.refl _ _).alloc (Nat.le_refl _) _).alloc (by simp) _) hb1 | exact below_st HB.out hb1); clear hb1))
  go_ret
  exact ⟨by rw [e1.out]; rfl, by first | exact ((Below.refl _ _).alloc (Nat.le_refl _) _).alloc (by simp) _ | exact HB.out⟩
 have e1 := Hid.mk' (eqB_yes (show x = y by cases x; cases y; simp only [Step.mk.injEq]; exact ⟨eqB_of q_Asks, eqB_of q_On, eqB_of q_Cases, eqB_of q_Else, eqB_of q_Fall, eqB_of q_End, eqB_of q_Bad, eqB_of q_Give⟩) : eqB x y = true)
 go_enter Tryz.func234, Tryz.ntmps234
 go_wp2_with (first | (go_at_call 29; refine (eqStringS_calls x.Asks y.Asks _ _ _ (h0.out.below (by first | exact ((Below.refl _ _).alloc (Nat.le_refl _) _).alloc (by simp) _ | exact HB.out)) (g0.out.below (by first | exact ((Below.refl _ _).alloc (Nat.le_refl _) _).alloc (by simp) _ | exact HB.out))).mono ?_; rintro e w1 ⟨rfl, hb1⟩; obtain ⟨hcx, hfx⟩ := bcell hb1; have hz1 : w.heap.size + 1 < w1.heap.size := (by have := hb1.size; (try simp at this); omega); have hz0 : w.heap.size < w1.heap.size := (by omega); have HB := Asd.mk (show Below w.heap.size w w1 from by first | exact below_st (((Below.refl _ _).alloc (Nat.le_refl _) _).alloc (by simp) _) hb1 | exact below_st HB.out hb1); clear hb1) | (go_at_call 252; refine (eqCaseS_calls x.Cases y.Cases _ _ _ (h2.out.below (by first | exact ((Below.refl _ _).alloc (Nat.le_refl _) _).alloc (by simp) _ | exact HB.out)) (g2.out.below (by first | exact ((Below.refl _ _).alloc (Nat.le_refl _) _).alloc (by simp) _ | exact HB.out))).mono ?_; rintro e w1 ⟨rfl, hb1⟩; obtain ⟨hcx, hfx⟩ := bcell hb1; have hz1 : w.heap.size + 1 < w1.heap.size := (by have := hb1.size; (try simp at this); omega); have hz0 : w.heap.size < w1.heap.size := (by omega); have HB := Asd.mk (show Below w.heap.size w w1 from by first | exact below_st (((Below.refl _ _).alloc (Nat.le_refl _) _).alloc (by simp) _) hb1 | exact below_st HB.out hb1); clear hb1))
 go_ret
 exact ⟨by rw [e1.out]; rfl, by first | exact ((Below.refl _ _).alloc (Nat.le_refl _) _).alloc (by simp) _ | exact HB.out⟩
set_option maxRecDepth 100000 in
set_option maxHeartbeats 2000000 in
theorem eqStepS_calls {tStep tCase tStep' tCase' : Nat} (xs ys : List Step) (v u : Value) (w : World) (h : rep w (StepsT tStep tCase xs) v) (h' : rep w (StepsT tStep' tCase' ys) u) :
  Calls Tryz.prog 211 #[v, u] w fun e w' => e = .returned (.bool (eqB xs ys)) ∧ Below w.heap.size w w' := by
 obtain ⟨A, c, rfl, hc, hn⟩ := rep_len h
 obtain ⟨A', c', rfl, hc', hn'⟩ := rep_len h'
 replace h := Asd.mk h
 replace h' := Asd.mk h'
 by_cases hl : xs.length = ys.length
 rotate_left
 ·have e1 := Hid.mk' (eqB_no (fun e => hl (congrArg List.length e)) : eqB xs ys = false)
  have hb : ((xs.length : Int) != (ys.length : Int)) = true := by simp; omega
  replace hl := Hid.mk' hl
  go_enter Tryz.func211, Tryz.ntmps211
  go_wp2
  go_ret
  exact ⟨by rw [e1.out]; rfl, Below.refl _ _⟩
 have hb : ((xs.length : Int) != (ys.length : Int)) = false := by simp; omega
 replace hl := Hid.mk' hl
 go_enter Tryz.func211, Tryz.ntmps211
 go_wp2
 go_loopw [5] (fun i wr => ∃ k : Nat, k ≤ xs.length ∧ i = .int .i64 k ∧ eqTo xs ys k ∧ Below w.heap.size w wr) (fun i _ => xs.length - (intOf i).toNat)
 case atStart => exact ⟨0, by omega, rfl, eqTo_zero _ _, Below.refl _ _⟩
 case round =>
  obtain ⟨k, hk, rfl, hA, hbr⟩ := hrel
  by_cases hlt : k < xs.length
  ·have hlt' : k < ys.length := by have := hl.out; omega
   obtain ⟨a, c', v0, v2, he, k0, k1, k2, k3, k4, k5, k6, k7, h0, h2, hr⟩ := Step.elem (h.out.below hbr) hlt
   cases he
   obtain ⟨B0, b0, rfl, _, _⟩ := rep_len h0
   obtain ⟨B2, b2, rfl, _, _⟩ := rep_len h2
   clear h0 h2
   replace hr := Asd.mk hr
   obtain ⟨a, d', u0, u2, he, m0, m1, m2, m3, m4, m5, m6, m7, g0, g2, gr⟩ := Step.elem (h'.out.below hbr) hlt'
   cases he
   obtain ⟨C0, d0, rfl, _, _⟩ := rep_len g0
   obtain ⟨C2, d2, rfl, _, _⟩ := rep_len g2
   clear g0 g2
   replace gr := Asd.mk gr
   cases hq : eqB xs[k] ys[k] with
   | true =>
    have e1 := eqTo_succ hA hlt hlt' (eqB_of hq)
    go_wp2
    go_still_tail 8, (by kernel_rfl)
    change wpList _ _ _ _ _ wr.drew
    go_wp2_with (first | (go_at_call 234; refine (eqStep_calls xs[k] ys[k] _ (hr.out.below (by exact Below.drew (Below.refl _ _))) (gr.out.below (by exact Below.drew (Below.refl _ _)))).mono ?_; rintro e w1 ⟨rfl, hb1⟩))
    go_roundw
    case rel => exact ⟨k + 1, by omega, by go_num, e1, below_st hbr.drew hb1⟩
    case measure => simp [intOf]; omega
   | false =>
    have e1 := Hid.mk' (eqB_no (ne_at hlt hlt' (eqB_ne hq)) : eqB xs ys = false)
    go_wp2
    go_still_tail 8, (by kernel_rfl)
    change wpList _ _ _ _ _ wr.drew
    go_wp2_with (first | (go_at_call 234; refine (eqStep_calls xs[k] ys[k] _ (hr.out.below (by exact Below.drew (Below.refl _ _))) (gr.out.below (by exact Below.drew (Below.refl _ _)))).mono ?_; rintro e w1 ⟨rfl, hb1⟩))
    go_ret
    exact ⟨by rw [e1.out]; rfl, below_st hbr.drew hb1⟩
  ·obtain rfl : k = xs.length := by omega
   have e1 := Hid.mk' (eqB_yes (eqTo_end hl.out hA))
   go_wp2
   go_ret
   exact ⟨by rw [e1.out]; rfl, hbr⟩
set_option maxRecDepth 100000 in
set_option maxHeartbeats 2000000 in
theorem eqAction_calls {tStep tCase tStep' tCase' : Nat} (x y : Action) (w : World) {vs us : List Value} (h : reps w (x.c tStep tCase) vs) (h' : reps w (y.c tStep' tCase') us) :
  Calls Tryz.prog 180 #[.agg vs.toArray, .agg us.toArray] w fun e w' => e = .returned (.bool (eqB x y)) ∧ Below w.heap.size w w' := by
 obtain ⟨v1, rfl, h1⟩ := Action.ropen h
 obtain ⟨u1, rfl, g1⟩ := Action.ropen h'
 obtain ⟨A1, c1, rfl, _, _⟩ := rep_len h1
 replace h1 := Asd.mk h1
 obtain ⟨B1, b1, rfl, _, _⟩ := rep_len g1
 replace g1 := Asd.mk g1
 clear h h'
 have r_Cost := eqB_int x.Cost y.Cost
 rcases Bool.eq_false_or_eq_true (eqB x.Cost y.Cost) with q_Cost | q_Cost
 rotate_left
 ·have e1 := Hid.mk' (eqB_no (fun e => eqB_ne q_Cost (congrArg Action.Cost e)) : eqB x y = false)
  go_enter Tryz.func180, Tryz.ntmps180
  go_wp2_with (first | (go_at_call 211; refine (eqStepS_calls x.Steps y.Steps _ _ _ (h1.out.below (by first | exact ((Below.refl _ _).alloc (Nat.le_refl _) _).alloc (by simp) _ | exact HB.out)) (g1.out.below (by first | exact ((Below.refl _ _).alloc (Nat.le_refl _) _).alloc (by simp) _ | exact HB.out))).mono ?_; rintro e w1 ⟨rfl, hb1⟩; obtain ⟨hcx, hfx⟩ := bcell hb1; have hz1 : w.heap.size + 1 < w1.heap.size := (by have := hb1.size; (try simp at this); omega); have hz0 : w.heap.size < w1.heap.size := (by omega); have HB := Asd.mk (show Below w.heap.size w w1 from by first | exact below_st (((Below.refl _ _).alloc (Nat.le_refl _) _).alloc (by simp) _) hb1 | exact below_st HB.out hb1); clear hb1))
  go_ret
  exact ⟨by rw [e1.out]; rfl, by first | exact ((Below.refl _ _).alloc (Nat.le_refl _) _).alloc (by simp) _ | exact HB.out⟩
 rcases Bool.eq_false_or_eq_true (eqB x.Steps y.Steps) with q_Steps | q_Steps
 rotate_left
 ·have e1 := Hid.mk' (eqB_no (fun e => eqB_ne q_Steps (congrArg Action.Steps e)) : eqB x y = false)
  go_enter Tryz.func180, Tryz.ntmps180
  go_wp2_with (first | (go_at_call 211; refine (eqStepS_calls x.Steps y.Steps _ _ _ (h1.out.below (by first | exact ((Below.refl _ _).alloc (Nat.le_refl _) _).alloc (by simp) _ | exact HB.out)) (g1.out.below (by first | exact ((Below.refl _ _).alloc (Nat.le_refl _) _).alloc (by simp) _ | exact HB.out))).mono ?_; rintro e w1 ⟨rfl, hb1⟩; obtain ⟨hcx, hfx⟩ := bcell hb1; have hz1 : w.heap.size + 1 < w1.heap.size := (by have := hb1.size; (try simp at this); omega); have hz0 : w.heap.size < w1.heap.size := (by omega); have HB := Asd.mk (show Below w.heap.size w w1 from by first | exact below_st (((Below.refl _ _).alloc (Nat.le_refl _) _).alloc (by simp) _) hb1 | exact below_st HB.out hb1); clear hb1))
  go_ret
  exact ⟨by rw [e1.out]; rfl, by first | exact ((Below.refl _ _).alloc (Nat.le_refl _) _).alloc (by simp) _ | exact HB.out⟩
 have e1 := Hid.mk' (eqB_yes (show x = y by cases x; cases y; simp only [Action.mk.injEq]; exact ⟨eqB_of q_Cost, eqB_of q_Steps⟩) : eqB x y = true)
 go_enter Tryz.func180, Tryz.ntmps180
 go_wp2_with (first | (go_at_call 211; refine (eqStepS_calls x.Steps y.Steps _ _ _ (h1.out.below (by first | exact ((Below.refl _ _).alloc (Nat.le_refl _) _).alloc (by simp) _ | exact HB.out)) (g1.out.below (by first | exact ((Below.refl _ _).alloc (Nat.le_refl _) _).alloc (by simp) _ | exact HB.out))).mono ?_; rintro e w1 ⟨rfl, hb1⟩; obtain ⟨hcx, hfx⟩ := bcell hb1; have hz1 : w.heap.size + 1 < w1.heap.size := (by have := hb1.size; (try simp at this); omega); have hz0 : w.heap.size < w1.heap.size := (by omega); have HB := Asd.mk (show Below w.heap.size w w1 from by first | exact below_st (((Below.refl _ _).alloc (Nat.le_refl _) _).alloc (by simp) _) hb1 | exact below_st HB.out hb1); clear hb1))
 go_ret
 exact ⟨by rw [e1.out]; rfl, by first | exact ((Below.refl _ _).alloc (Nat.le_refl _) _).alloc (by simp) _ | exact HB.out⟩
end Go.Proofs.YtkpkfihaihoaeaaGreatDoor.M
end
section
set_option linter.unusedVariables false
set_option linter.unusedSimpArgs false
namespace Go.Proofs.YtkpkfihaihoaeaaGreatDoor.M
open Go.RowKit

set_option maxRecDepth 100000 in
set_option maxHeartbeats 2000000 in
theorem eqNode_calls {tStep tCase tStep' tCase' : Nat} (x y : Node) (w : World) {vs us : List Value} (h : reps w (x.c tStep tCase) vs) (h' : reps w (y.c tStep' tCase') us) :
  Calls Tryz.prog 141 #[.agg vs.toArray, .agg us.toArray] w fun e w' => e = .returned (.bool (eqB x y)) ∧ Below w.heap.size w w' := by
 obtain ⟨v2, rfl, h2⟩ := Node.ropen h
 obtain ⟨u2, rfl, g2⟩ := Node.ropen h'
 obtain ⟨A2, c2, rfl, _, _⟩ := rep_len h2
 replace h2 := Asd.mk h2
 obtain ⟨B2, b2, rfl, _, _⟩ := rep_len g2
 replace g2 := Asd.mk g2
 clear h h'
 have r_Name := eqB_str x.Name y.Name
 have s_Name := eqB_str2 x.Name y.Name
 rcases Bool.eq_false_or_eq_true (eqB x.Name y.Name) with q_Name | q_Name
 rotate_left
 ·have e1 := Hid.mk' (eqB_no (fun e => eqB_ne q_Name (congrArg Node.Name e)) : eqB x y = false)
  go_enter Tryz.func141, Tryz.ntmps141
  go_wp2_with (first | (go_at_call 180; refine (eqAction_calls x.Action y.Action _ (Action.rmk x.Action (h2.out.below (by first | exact ((Below.refl _ _).alloc (Nat.le_refl _) _).alloc (by simp) _ | exact HB.out))) (Action.rmk y.Action (g2.out.below (by first | exact ((Below.refl _ _).alloc (Nat.le_refl _) _).alloc (by simp) _ | exact HB.out)))).mono ?_; rintro e w1 ⟨rfl, hb1⟩; obtain ⟨hcx, hfx⟩ := bcell hb1; have hz1 : w.heap.size + 1 < w1.heap.size := (by have := hb1.size; (try simp at this); omega); have hz0 : w.heap.size < w1.heap.size := (by omega); have HB := Asd.mk (show Below w.heap.size w w1 from by first | exact below_st (((Below.refl _ _).alloc (Nat.le_refl _) _).alloc (by simp) _) hb1 | exact below_st HB.out hb1); clear hb1))
  go_ret
  exact ⟨by rw [e1.out]; rfl, by first | exact ((Below.refl _ _).alloc (Nat.le_refl _) _).alloc (by simp) _ | exact HB.out⟩
 rcases Bool.eq_false_or_eq_true (eqB x.Action y.Action) with q_Action | q_Action
 rotate_left
 ·have e1 := Hid.mk' (eqB_no (fun e => eqB_ne q_Action (congrArg Node.Action e)) : eqB x y = false)
  go_enter Tryz.func141, Tryz.ntmps141
  go_wp2_with (first | (go_at_call 180; refine (eqAction_calls x.Action y.Action _ (Action.rmk x.Action (h2.out.below (by first | exact ((Below.refl _ _).alloc (Nat.le_refl _) _).alloc (by simp) _ | exact HB.out))) (Action.rmk y.Action (g2.out.below (by first | exact ((Below.refl _ _).alloc (Nat.le_refl _) _).alloc (by simp) _ | exact HB.out)))).mono ?_; rintro e w1 ⟨rfl, hb1⟩; obtain ⟨hcx, hfx⟩ := bcell hb1; have hz1 : w.heap.size + 1 < w1.heap.size := (by have := hb1.size; (try simp at this); omega); have hz0 : w.heap.size < w1.heap.size := (by omega); have HB := Asd.mk (show Below w.heap.size w w1 from by first | exact below_st (((Below.refl _ _).alloc (Nat.le_refl _) _).alloc (by simp) _) hb1 | exact below_st HB.out hb1); clear hb1))
  go_ret
  exact ⟨by rw [e1.out]; rfl, by first | exact ((Below.refl _ _).alloc (Nat.le_refl _) _).alloc (by simp) _ | exact HB.out⟩
 have e1 := Hid.mk' (eqB_yes (show x = y by cases x; cases y; simp only [Node.mk.injEq]; exact ⟨eqB_of q_Name, eqB_of q_Action⟩) : eqB x y = true)
 go_enter Tryz.func141, Tryz.ntmps141
 go_wp2_with (first | (go_at_call 180; refine (eqAction_calls x.Action y.Action _ (Action.rmk x.Action (h2.out.below (by first | exact ((Below.refl _ _).alloc (Nat.le_refl _) _).alloc (by simp) _ | exact HB.out))) (Action.rmk y.Action (g2.out.below (by first | exact ((Below.refl _ _).alloc (Nat.le_refl _) _).alloc (by simp) _ | exact HB.out)))).mono ?_; rintro e w1 ⟨rfl, hb1⟩; obtain ⟨hcx, hfx⟩ := bcell hb1; have hz1 : w.heap.size + 1 < w1.heap.size := (by have := hb1.size; (try simp at this); omega); have hz0 : w.heap.size < w1.heap.size := (by omega); have HB := Asd.mk (show Below w.heap.size w w1 from by first | exact below_st (((Below.refl _ _).alloc (Nat.le_refl _) _).alloc (by simp) _) hb1 | exact below_st HB.out hb1); clear hb1))
 go_ret
 exact ⟨by rw [e1.out]; rfl, by first | exact ((Below.refl _ _).alloc (Nat.le_refl _) _).alloc (by simp) _ | exact HB.out⟩
set_option maxRecDepth 100000 in
set_option maxHeartbeats 2000000 in
theorem eqNodeS_calls {tNode tStep tCase tNode' tStep' tCase' : Nat} (xs ys : List Node) (v u : Value) (w : World) (h : rep w (NodesT tNode tStep tCase xs) v) (h' : rep w (NodesT tNode' tStep' tCase' ys) u) :
  Calls Tryz.prog 77 #[v, u] w fun e w' => e = .returned (.bool (eqB xs ys)) ∧ Below w.heap.size w w' := by
 obtain ⟨A, c, rfl, hc, hn⟩ := rep_len h
 obtain ⟨A', c', rfl, hc', hn'⟩ := rep_len h'
 replace h := Asd.mk h
 replace h' := Asd.mk h'
 by_cases hl : xs.length = ys.length
 rotate_left
 ·have e1 := Hid.mk' (eqB_no (fun e => hl (congrArg List.length e)) : eqB xs ys = false)
  have hb : ((xs.length : Int) != (ys.length : Int)) = true := by simp; omega
  replace hl := Hid.mk' hl
  go_enter Tryz.func77, Tryz.ntmps77
  go_wp2
  go_ret
  exact ⟨by rw [e1.out]; rfl, Below.refl _ _⟩
 have hb : ((xs.length : Int) != (ys.length : Int)) = false := by simp; omega
 replace hl := Hid.mk' hl
 go_enter Tryz.func77, Tryz.ntmps77
 go_wp2
 go_loopw [5] (fun i wr => ∃ k : Nat, k ≤ xs.length ∧ i = .int .i64 k ∧ eqTo xs ys k ∧ Below w.heap.size w wr) (fun i _ => xs.length - (intOf i).toNat)
 case atStart => exact ⟨0, by omega, rfl, eqTo_zero _ _, Below.refl _ _⟩
 case round =>
  obtain ⟨k, hk, rfl, hA, hbr⟩ := hrel
  by_cases hlt : k < xs.length
  ·have hlt' : k < ys.length := by have := hl.out; omega
   obtain ⟨a, c', v2, he, k0, k1, k2, h2, hr⟩ := Node.elem (h.out.below hbr) hlt
   cases he
   obtain ⟨B2, b2, rfl, _, _⟩ := rep_len h2
   clear h2
   replace hr := Asd.mk hr
   obtain ⟨a, d', u2, he, m0, m1, m2, g2, gr⟩ := Node.elem (h'.out.below hbr) hlt'
   cases he
   obtain ⟨C2, d2, rfl, _, _⟩ := rep_len g2
   clear g2
   replace gr := Asd.mk gr
   cases hq : eqB xs[k] ys[k] with
   | true =>
    have e1 := eqTo_succ hA hlt hlt' (eqB_of hq)
    go_wp2
    go_still_tail 8, (by kernel_rfl)
    change wpList _ _ _ _ _ wr.drew
    go_wp2_with (first | (go_at_call 141; refine (eqNode_calls xs[k] ys[k] _ (hr.out.below (by exact Below.drew (Below.refl _ _))) (gr.out.below (by exact Below.drew (Below.refl _ _)))).mono ?_; rintro e w1 ⟨rfl, hb1⟩))
    go_roundw
    case rel => exact ⟨k + 1, by omega, by go_num, e1, below_st hbr.drew hb1⟩
    case measure => simp [intOf]; omega
   | false =>
    have e1 := Hid.mk' (eqB_no (ne_at hlt hlt' (eqB_ne hq)) : eqB xs ys = false)
    go_wp2
    go_still_tail 8, (by kernel_rfl)
    change wpList _ _ _ _ _ wr.drew
    go_wp2_with (first | (go_at_call 141; refine (eqNode_calls xs[k] ys[k] _ (hr.out.below (by exact Below.drew (Below.refl _ _))) (gr.out.below (by exact Below.drew (Below.refl _ _)))).mono ?_; rintro e w1 ⟨rfl, hb1⟩))
    go_ret
    exact ⟨by rw [e1.out]; rfl, below_st hbr.drew hb1⟩
  ·obtain rfl : k = xs.length := by omega
   have e1 := Hid.mk' (eqB_yes (eqTo_end hl.out hA))
   go_wp2
   go_ret
   exact ⟨by rw [e1.out]; rfl, hbr⟩
set_option maxRecDepth 100000 in
set_option maxHeartbeats 2000000 in
theorem eqWeb_calls {tNode tStep tCase tNode' tStep' tCase' : Nat} (x y : Web) (w : World) {vs us : List Value} (h : reps w (x.c tNode tStep tCase) vs) (h' : reps w (y.c tNode' tStep' tCase') us) :
  Calls Tryz.prog 21 #[.agg vs.toArray, .agg us.toArray] w fun e w' => e = .returned (.bool (eqB x y)) ∧ Below w.heap.size w w' := by
 obtain ⟨v0, rfl, h0⟩ := Web.ropen h
 obtain ⟨u0, rfl, g0⟩ := Web.ropen h'
 obtain ⟨A0, c0, rfl, _, _⟩ := rep_len h0
 replace h0 := Asd.mk h0
 obtain ⟨B0, b0, rfl, _, _⟩ := rep_len g0
 replace g0 := Asd.mk g0
 clear h h'
 rcases Bool.eq_false_or_eq_true (eqB x.Nodes y.Nodes) with q_Nodes | q_Nodes
 rotate_left
 ·have e1 := Hid.mk' (eqB_no (fun e => eqB_ne q_Nodes (congrArg Web.Nodes e)) : eqB x y = false)
  go_enter Tryz.func21, Tryz.ntmps21
  go_wp2_with (first | (go_at_call 77; refine (eqNodeS_calls x.Nodes y.Nodes _ _ _ (h0.out.below (by first | exact ((Below.refl _ _).alloc (Nat.le_refl _) _).alloc (by simp) _ | exact HB.out)) (g0.out.below (by first | exact ((Below.refl _ _).alloc (Nat.le_refl _) _).alloc (by simp) _ | exact HB.out))).mono ?_; rintro e w1 ⟨rfl, hb1⟩; obtain ⟨hcx, hfx⟩ := bcell hb1; have hz1 : w.heap.size + 1 < w1.heap.size := (by have := hb1.size; (try simp at this); omega); have hz0 : w.heap.size < w1.heap.size := (by omega); have HB := Asd.mk (show Below w.heap.size w w1 from by first | exact below_st (((Below.refl _ _).alloc (Nat.le_refl _) _).alloc (by simp) _) hb1 | exact below_st HB.out hb1); clear hb1))
  go_ret
  exact ⟨by rw [e1.out]; rfl, by first | exact ((Below.refl _ _).alloc (Nat.le_refl _) _).alloc (by simp) _ | exact HB.out⟩
 have e1 := Hid.mk' (eqB_yes (show x = y by cases x; cases y; simp only [Web.mk.injEq]; exact eqB_of q_Nodes) : eqB x y = true)
 go_enter Tryz.func21, Tryz.ntmps21
 go_wp2_with (first | (go_at_call 77; refine (eqNodeS_calls x.Nodes y.Nodes _ _ _ (h0.out.below (by first | exact ((Below.refl _ _).alloc (Nat.le_refl _) _).alloc (by simp) _ | exact HB.out)) (g0.out.below (by first | exact ((Below.refl _ _).alloc (Nat.le_refl _) _).alloc (by simp) _ | exact HB.out))).mono ?_; rintro e w1 ⟨rfl, hb1⟩; obtain ⟨hcx, hfx⟩ := bcell hb1; have hz1 : w.heap.size + 1 < w1.heap.size := (by have := hb1.size; (try simp at this); omega); have hz0 : w.heap.size < w1.heap.size := (by omega); have HB := Asd.mk (show Below w.heap.size w w1 from by first | exact below_st (((Below.refl _ _).alloc (Nat.le_refl _) _).alloc (by simp) _) hb1 | exact below_st HB.out hb1); clear hb1))
 go_ret
 exact ⟨by rw [e1.out]; rfl, by first | exact ((Below.refl _ _).alloc (Nat.le_refl _) _).alloc (by simp) _ | exact HB.out⟩
end Go.Proofs.YtkpkfihaihoaeaaGreatDoor.M
end
section
set_option linter.unusedVariables false
set_option linter.unusedSimpArgs false
namespace Go.Proofs.YtkpkfihaihoaeaaGreatDoor.M
open Go.RowKit

theorem info_Run : (Tryz.prog.info? 84).map (fun i => (i.zero, i.size, i.bytes)) = some (some (.agg #[.string ⟨#[]⟩, .bool false, .bool false, .string ⟨#[]⟩, .int .i64 0, .int .i64 0, .slice none 0 0]), 7, 80) := by kernel_rfl
theorem z_Run (W : World) : owns W (zRun.c) (Value.agg #[.string ⟨#[]⟩, .bool false, .bool false, .string ⟨#[]⟩, .int .i64 0, .int .i64 0, .slice none 0 0]).cells.toList [] := by have h := Run.omk (w := W) zRun (own_nil _ _ _); simpa [Value.cells, zRun] using h
end Go.Proofs.YtkpkfihaihoaeaaGreatDoor.M
end
section
set_option linter.unusedVariables false
set_option linter.unusedSimpArgs false
namespace Go.Proofs.YtkpkfihaihoaeaaGreatDoor.M
open Go.RowKit

set_option maxRecDepth 100000 in
set_option maxHeartbeats 1000000 in
theorem toRun_calls (x : Run) (w : World) {vs : List Value} (h : reps w (x.c) vs) (hz : x.bk ≤ 1048576) :
  Calls Tryz.prog 139 #[.agg vs.toArray] w (MadeA w (x.c)) := by
 obtain ⟨v6, rfl, h6⟩ := Run.ropen h
 obtain ⟨A6, c6, rfl, _, _⟩ := rep_len h6
 replace h6 := Asd.mk h6
 clear h
 unfold Run.bk at hz
 have HB := Asd.mk (Below.refl w.heap.size w)
 go_enter Tryz.func139, Tryz.ntmps139
 go_wp2_with fail
 refine (toStringS_calls x.Texts _ _ (h6.out.below (by repeat (first | (with_reducible exact Below.refl _ _) | (with_reducible exact HB.out) | (with_reducible refine below_al ?_ _) | ((with_reducible refine Below.setCell ?_ ?_ _); rotate_left; (next => first | (simp; done) | (simp; omega)))))) (by unfold bkS bsOf at hz; omega)).mono ?_
 rintro e w1 ⟨v6, rfl, ⟨F6, o6, n6, l6⟩, hb1⟩
 obtain ⟨B6, b6, rfl, _, _⟩ := own_slice o6
 replace o6 := Asd.mk o6
 replace l6 := Asd.mk l6
 have u6 := Asd.mk o6.out.lt
 replace HB := Asd.mk (show Below w.heap.size w w1 from below_st (by repeat (first | (with_reducible exact Below.refl _ _) | (with_reducible exact HB.out) | (with_reducible refine below_al ?_ _) | ((with_reducible refine Below.setCell ?_ ?_ _); rotate_left; (next => first | (simp; done) | (simp; omega))))) hb1)
 obtain ⟨hcx, hfx⟩ := bcell hb1
 have hzz : w.heap.size + 1 + 1 < w1.heap.size := by have := hb1.size; (try simp at this); omega
 have hz0 : w.heap.size < w1.heap.size := by omega
 have hz1 : w.heap.size + 1 < w1.heap.size := by omega
 clear hb1
 go_wp2
 refine bodyPost_ret (v := .agg #[.string x.Name, .bool x.Over, .bool x.Fail, .string x.Text, .int .i64 x.At, .int .i64 x.Visits, .slice B6 x.Texts.length b6]) (by simp [results, Tryz.results139, go_sem, *]) rfl ?_
 exact ⟨_, rfl, ⟨_, Run.omk x (by repeat (first | (with_reducible exact o6.out) | ((with_reducible refine own.set ?_ (fun hk_ => ?_) _); rotate_left; (next => have hk_ := l6.out _ hk_; simp at hk_; omega)) | (with_reducible refine own.alloc ?_ _))), n6, fun k hk => by have := l6.out k hk; simp at this; omega⟩, by repeat (first | (with_reducible exact Below.refl _ _) | (with_reducible exact HB.out) | (with_reducible refine below_al ?_ _) | ((with_reducible refine Below.setCell ?_ ?_ _); rotate_left; (next => first | (simp; done) | (simp; omega))))⟩
set_option maxRecDepth 100000 in
set_option maxHeartbeats 1000000 in
theorem toRunS_calls {tRun : Nat} (xs : List Run) (v : Value) (w : World) (h : rep w (RunsT tRun xs) v) (hz : Run.bs xs ≤ 1048576) :
  Calls Tryz.prog 75 #[v] w (MadeV w (RunsT 84 xs)) := by
 obtain ⟨A, c, rfl, hc, hn⟩ := rep_len h
 have h := Asd.mk h
 have hln : xs.length ≤ 1048576 := by unfold Run.bs bsOf at hz; omega
 go_enter Tryz.func75, Tryz.ntmps75
 go_wp2_with (first | (at_make; refine mk rfl rfl Tryz.underlying36 info_Run rfl (by decide) xs.length rfl rfl rfl rfl (by omega) (by unfold maxLen; omega) (z_Run) ?_; intro w1 hown hbel hsz))
 rw [← toTo_zero Run.c] at hown
 have hown := Asd.mk hown
 go_loopw [4] (fun i wr => ∃ k : Nat, k ≤ xs.length ∧ i = .int .i64 k ∧ (∃ F, own wr (.l 84 7 xs.length (toTo Run.c (Run.c zRun) xs k)) (.slice (some ⟨w.heap.size, 0, none⟩) xs.length xs.length) F ∧ F.Nodup ∧ ∀ k ∈ F, w.heap.size ≤ k) ∧ Below w.heap.size w wr) (fun i _ => xs.length - (intOf i).toNat)
 case atStart => exact ⟨0, by omega, rfl, ⟨_, hown.out, by simp, by simp⟩, hbel⟩
 case round =>
  obtain ⟨k, hk, rfl, ⟨F, ho, hF, hFl⟩, hbr⟩ := hrel
  have ho := Asd.mk ho
  by_cases hlt : k < xs.length
  ·obtain ⟨a, c', v6, he, k0, k1, k2, k3, k4, k5, k6, h6, hr⟩ := Run.elem (h.out.below hbr) hlt
   cases he
   obtain ⟨B6, b6, rfl, _, _⟩ := rep_len h6
   clear h6
   have hr := Asd.mk hr
   have hFl := Asd.mk hFl
   have hbk : xs[k].bk ≤ 1048576 := by have := sumTo_le Run.bk xs k hlt; unfold Run.bs bsOf at hz; omega
   go_wp2_with (first | (go_at_call 139; refine (toRun_calls xs[k] _ hr.out hbk).mono ?_; rintro e w1 ⟨us, rfl, ⟨F2, o2, n2, l2⟩, hb1⟩; have q2 := Asd.mk o2; obtain ⟨w6, G6, rfl, p6, _⟩ := Run.oopen o2; obtain ⟨D6, d6, rfl, _, _⟩ := own_slice p6; clear p6; have ho1 := own.below ho.out hb1; obtain ⟨u0, hu0, hf0⟩ := own_at ho1 (j := k * 7) (by rw [toTo_length (enc := Run.c) (zt := Run.c zRun) (sz := 7) (fun _ => rfl) rfl xs hk]; omega); obtain ⟨u1, hu1, hf1⟩ := own_at ho1 (j := k * 7 + 1) (by rw [toTo_length (enc := Run.c) (zt := Run.c zRun) (sz := 7) (fun _ => rfl) rfl xs hk]; omega); obtain ⟨u2, hu2, hf2⟩ := own_at ho1 (j := k * 7 + 2) (by rw [toTo_length (enc := Run.c) (zt := Run.c zRun) (sz := 7) (fun _ => rfl) rfl xs hk]; omega); obtain ⟨u3, hu3, hf3⟩ := own_at ho1 (j := k * 7 + 3) (by rw [toTo_length (enc := Run.c) (zt := Run.c zRun) (sz := 7) (fun _ => rfl) rfl xs hk]; omega); obtain ⟨u4, hu4, hf4⟩ := own_at ho1 (j := k * 7 + 4) (by rw [toTo_length (enc := Run.c) (zt := Run.c zRun) (sz := 7) (fun _ => rfl) rfl xs hk]; omega); obtain ⟨u5, hu5, hf5⟩ := own_at ho1 (j := k * 7 + 5) (by rw [toTo_length (enc := Run.c) (zt := Run.c zRun) (sz := 7) (fun _ => rfl) rfl xs hk]; omega); obtain ⟨u6, hu6, hf6⟩ := own_at ho1 (j := k * 7 + 6) (by rw [toTo_length (enc := Run.c) (zt := Run.c zRun) (sz := 7) (fun _ => rfl) rfl xs hk]; omega); have ho1 := Asd.mk ho1; have l2 := Asd.mk l2; have HB := Asd.mk (below_st hbr hb1); clear hb1 o2))
   have hg : w.heap.size ∉ F2 := by intro hk; have h1 := l2.out _ hk; have h2 := own.lt ho.out w.heap.size (by obtain ⟨g_, c_, e_, hg_, _⟩ := own_form ho.out (by omega); cases e_; exact hg_); omega
   obtain ⟨F3, r1, r2, r3⟩ := own_stores (j := k * 7) ho1.out (by rw [toTo_length (enc := Run.c) (zt := Run.c zRun) (sz := 7) (fun _ => rfl) rfl xs hk]; show k * 7 + 7 ≤ xs.length * 7; omega) q2.out (by assumption)
   rw [toTo_succ (enc := Run.c) (zt := Run.c zRun) (sz := 7) (fun _ => rfl) rfl xs hlt] at r1
   simp only [setCells, Nat.add_assoc, Nat.reduceAdd] at r1
   have r1 := Asd.mk r1
   go_roundw
   case rel => exact ⟨k + 1, by omega, by go_num, ⟨F3, r1.out, r3 hF n2 (fun k hk hk' => by have h1 := l2.out k hk; have h2 := ho.out.lt k hk'; omega), fun k hk => (r2 k hk).elim (hFl.out k) (fun h => by have h1 := l2.out k h; have h2 := hbr.size; omega)⟩, by repeat (first | (with_reducible exact HB.out) | ((with_reducible refine Below.setCell ?_ ?_ _); rotate_left; (next => first | (simp; done) | (simp; omega))))⟩
   case measure => simp [intOf]; omega
  ·obtain rfl : k = xs.length := by omega
   rw [toTo_end] at ho
   have ho := Asd.mk ho.out
   go_wp2
   go_ret
   exact ⟨_, rfl, ⟨F, ho.out, hF, hFl⟩, hbr⟩
set_option maxRecDepth 100000 in
set_option maxHeartbeats 1000000 in
theorem toState_calls {tRun : Nat} (x : State) (w : World) {vs : List Value} (h : reps w (x.c tRun) vs) (hz : x.bk ≤ 1048576) :
  Calls Tryz.prog 19 #[.agg vs.toArray] w (MadeA w (x.c 84)) := by
 obtain ⟨v0, v1, rfl, h0, h1⟩ := State.ropen h
 obtain ⟨A0, c0, rfl, _, _⟩ := rep_len h0
 replace h0 := Asd.mk h0
 obtain ⟨A1, c1, rfl, _, _⟩ := rep_len h1
 replace h1 := Asd.mk h1
 clear h
 unfold State.bk at hz
 have HB := Asd.mk (Below.refl w.heap.size w)
 go_enter Tryz.func19, Tryz.ntmps19
 go_wp2_with fail
 refine (toStringS_calls x.Roots _ _ (h0.out.below (by repeat (first | (with_reducible exact Below.refl _ _) | (with_reducible exact HB.out) | (with_reducible refine below_al ?_ _) | ((with_reducible refine Below.setCell ?_ ?_ _); rotate_left; (next => first | (simp; done) | (simp; omega)))))) (by unfold bkS bsOf at hz; omega)).mono ?_
 rintro e w1 ⟨v0, rfl, ⟨F0, o0, n0, l0⟩, hb1⟩
 obtain ⟨B0, b0, rfl, _, _⟩ := own_slice o0
 replace o0 := Asd.mk o0
 replace l0 := Asd.mk l0
 have u0 := Asd.mk o0.out.lt
 replace HB := Asd.mk (show Below w.heap.size w w1 from below_st (by repeat (first | (with_reducible exact Below.refl _ _) | (with_reducible exact HB.out) | (with_reducible refine below_al ?_ _) | ((with_reducible refine Below.setCell ?_ ?_ _); rotate_left; (next => first | (simp; done) | (simp; omega))))) hb1)
 obtain ⟨hcx, hfx⟩ := bcell hb1
 have hzz : w.heap.size + 1 + 1 < w1.heap.size := by have := hb1.size; (try simp at this); omega
 have hz0 : w.heap.size < w1.heap.size := by omega
 have hz1 : w.heap.size + 1 < w1.heap.size := by omega
 clear hb1
 go_wp2_with fail
 refine (toRunS_calls x.Runs _ _ (h1.out.below (by repeat (first | (with_reducible exact Below.refl _ _) | (with_reducible exact HB.out) | (with_reducible refine below_al ?_ _) | ((with_reducible refine Below.setCell ?_ ?_ _); rotate_left; (next => first | (simp; done) | (simp; omega)))))) (by omega)).mono ?_
 rintro e w1 ⟨v1, rfl, ⟨F1, o1, n1, l1⟩, hb1⟩
 replace o0 := Asd.mk (own.below (t := strsT 9 x.Roots) (v := .slice B0 x.Roots.length b0) (F := F0) (by repeat (first | (with_reducible exact o0.out) | ((with_reducible refine own.set ?_ (fun hk_ => ?_) _); rotate_left; (next => have hk_ := l0.out _ hk_; simp at hk_; omega)) | (with_reducible refine own.alloc ?_ _))) hb1)
 obtain ⟨B1, b1, rfl, _, _⟩ := own_slice o1
 replace o1 := Asd.mk o1
 replace l1 := Asd.mk l1
 have u1 := Asd.mk o1.out.lt
 replace HB := Asd.mk (show Below w.heap.size w w1 from below_st (by repeat (first | (with_reducible exact Below.refl _ _) | (with_reducible exact HB.out) | (with_reducible refine below_al ?_ _) | ((with_reducible refine Below.setCell ?_ ?_ _); rotate_left; (next => first | (simp; done) | (simp; omega))))) hb1)
 obtain ⟨hcx, hfx⟩ := bcell hb1
 have hzz : w.heap.size + 1 + 1 < w1.heap.size := by have := hb1.size; (try simp at this); omega
 have hz0 : w.heap.size < w1.heap.size := by omega
 have hz1 : w.heap.size + 1 < w1.heap.size := by omega
 clear hb1
 go_wp2
 refine bodyPost_ret (v := .agg #[.slice B0 x.Roots.length b0, .slice B1 x.Runs.length b1]) (by simp [results, Tryz.results19, go_sem, *]) rfl ?_
 exact ⟨_, rfl, ⟨_, State.omk x (by repeat (first | (with_reducible exact o0.out) | ((with_reducible refine own.set ?_ (fun hk_ => ?_) _); rotate_left; (next => have hk_ := l0.out _ hk_; simp at hk_; omega)) | (with_reducible refine own.alloc ?_ _))) (by repeat (first | (with_reducible exact o1.out) | ((with_reducible refine own.set ?_ (fun hk_ => ?_) _); rotate_left; (next => have hk_ := l1.out _ hk_; simp at hk_; omega)) | (with_reducible refine own.alloc ?_ _))), nod2 n0 n1 (fun a ha hb => by have h1 := u0.out a ha; have h2 := l1.out a hb; simp at h2; omega), mem2 (fun k hk => by have := l0.out k hk; simp at this; omega) (fun k hk => by have := l1.out k hk; have := hzz; (try simp at *); omega)⟩, by repeat (first | (with_reducible exact Below.refl _ _) | (with_reducible exact HB.out) | (with_reducible refine below_al ?_ _) | ((with_reducible refine Below.setCell ?_ ?_ _); rotate_left; (next => first | (simp; done) | (simp; omega))))⟩
end Go.Proofs.YtkpkfihaihoaeaaGreatDoor.M
end
section
set_option linter.unusedVariables false
set_option linter.unusedSimpArgs false
namespace Go.Proofs.YtkpkfihaihoaeaaGreatDoor.M
open Go.RowKit

set_option maxRecDepth 100000 in
set_option maxHeartbeats 2000000 in
theorem eqRun_calls (x y : Run) (w : World) {vs us : List Value} (h : reps w (x.c) vs) (h' : reps w (y.c) us) :
  Calls Tryz.prog 142 #[.agg vs.toArray, .agg us.toArray] w fun e w' => e = .returned (.bool (eqB x y)) ∧ Below w.heap.size w w' := by
 obtain ⟨v6, rfl, h6⟩ := Run.ropen h
 obtain ⟨u6, rfl, g6⟩ := Run.ropen h'
 obtain ⟨A6, c6, rfl, _, _⟩ := rep_len h6
 replace h6 := Asd.mk h6
 obtain ⟨B6, b6, rfl, _, _⟩ := rep_len g6
 replace g6 := Asd.mk g6
 clear h h'
 have r_Name := eqB_str x.Name y.Name
 have s_Name := eqB_str2 x.Name y.Name
 have r_Over := eqB_bool x.Over y.Over
 have s_Over := eqB_bool2 x.Over y.Over
 have r_Fail := eqB_bool x.Fail y.Fail
 have s_Fail := eqB_bool2 x.Fail y.Fail
 have r_Text := eqB_str x.Text y.Text
 have s_Text := eqB_str2 x.Text y.Text
 have r_At := eqB_int x.At y.At
 have r_Visits := eqB_int x.Visits y.Visits
 rcases Bool.eq_false_or_eq_true (eqB x.Name y.Name) with q_Name | q_Name
 rotate_left
 ·have e1 := Hid.mk' (eqB_no (fun e => eqB_ne q_Name (congrArg Run.Name e)) : eqB x y = false)
  go_enter Tryz.func142, Tryz.ntmps142
  go_wp2_with (first | (go_at_call 29; refine (eqStringS_calls x.Texts y.Texts _ _ _ (h6.out.below (by first | exact ((Below.refl _ _).alloc (Nat.le_refl _) _).alloc (by simp) _ | exact HB.out)) (g6.out.below (by first | exact ((Below.refl _ _).alloc (Nat.le_refl _) _).alloc (by simp) _ | exact HB.out))).mono ?_; rintro e w1 ⟨rfl, hb1⟩; obtain ⟨hcx, hfx⟩ := bcell hb1; have hz1 : w.heap.size + 1 < w1.heap.size := (by have := hb1.size; (try simp at this); omega); have hz0 : w.heap.size < w1.heap.size := (by omega); have HB := Asd.mk (show Below w.heap.size w w1 from by first | exact below_st (((Below.refl _ _).alloc (Nat.le_refl _) _).alloc (by simp) _) hb1 | exact below_st HB.out hb1); clear hb1))
  go_ret
  exact ⟨by rw [e1.out]; rfl, by first | exact ((Below.refl _ _).alloc (Nat.le_refl _) _).alloc (by simp) _ | exact HB.out⟩
 rcases Bool.eq_false_or_eq_true (eqB x.Over y.Over) with q_Over | q_Over
 rotate_left
 ·have e1 := Hid.mk' (eqB_no (fun e => eqB_ne q_Over (congrArg Run.Over e)) : eqB x y = false)
  go_enter Tryz.func142, Tryz.ntmps142
  go_wp2_with (first | (go_at_call 29; refine (eqStringS_calls x.Texts y.Texts _ _ _ (h6.out.below (by first | exact ((Below.refl _ _).alloc (Nat.le_refl _) _).alloc (by simp) _ | exact HB.out)) (g6.out.below (by first | exact ((Below.refl _ _).alloc (Nat.le_refl _) _).alloc (by simp) _ | exact HB.out))).mono ?_; rintro e w1 ⟨rfl, hb1⟩; obtain ⟨hcx, hfx⟩ := bcell hb1; have hz1 : w.heap.size + 1 < w1.heap.size := (by have := hb1.size; (try simp at this); omega); have hz0 : w.heap.size < w1.heap.size := (by omega); have HB := Asd.mk (show Below w.heap.size w w1 from by first | exact below_st (((Below.refl _ _).alloc (Nat.le_refl _) _).alloc (by simp) _) hb1 | exact below_st HB.out hb1); clear hb1))
  go_ret
  exact ⟨by rw [e1.out]; rfl, by first | exact ((Below.refl _ _).alloc (Nat.le_refl _) _).alloc (by simp) _ | exact HB.out⟩
 rcases Bool.eq_false_or_eq_true (eqB x.Fail y.Fail) with q_Fail | q_Fail
 rotate_left
 ·have e1 := Hid.mk' (eqB_no (fun e => eqB_ne q_Fail (congrArg Run.Fail e)) : eqB x y = false)
  go_enter Tryz.func142, Tryz.ntmps142
  go_wp2_with (first | (go_at_call 29; refine (eqStringS_calls x.Texts y.Texts _ _ _ (h6.out.below (by first | exact ((Below.refl _ _).alloc (Nat.le_refl _) _).alloc (by simp) _ | exact HB.out)) (g6.out.below (by first | exact ((Below.refl _ _).alloc (Nat.le_refl _) _).alloc (by simp) _ | exact HB.out))).mono ?_; rintro e w1 ⟨rfl, hb1⟩; obtain ⟨hcx, hfx⟩ := bcell hb1; have hz1 : w.heap.size + 1 < w1.heap.size := (by have := hb1.size; (try simp at this); omega); have hz0 : w.heap.size < w1.heap.size := (by omega); have HB := Asd.mk (show Below w.heap.size w w1 from by first | exact below_st (((Below.refl _ _).alloc (Nat.le_refl _) _).alloc (by simp) _) hb1 | exact below_st HB.out hb1); clear hb1))
  go_ret
  exact ⟨by rw [e1.out]; rfl, by first | exact ((Below.refl _ _).alloc (Nat.le_refl _) _).alloc (by simp) _ | exact HB.out⟩
 rcases Bool.eq_false_or_eq_true (eqB x.Text y.Text) with q_Text | q_Text
 rotate_left
 ·have e1 := Hid.mk' (eqB_no (fun e => eqB_ne q_Text (congrArg Run.Text e)) : eqB x y = false)
  go_enter Tryz.func142, Tryz.ntmps142
  go_wp2_with (first | (go_at_call 29; refine (eqStringS_calls x.Texts y.Texts _ _ _ (h6.out.below (by first | exact ((Below.refl _ _).alloc (Nat.le_refl _) _).alloc (by simp) _ | exact HB.out)) (g6.out.below (by first | exact ((Below.refl _ _).alloc (Nat.le_refl _) _).alloc (by simp) _ | exact HB.out))).mono ?_; rintro e w1 ⟨rfl, hb1⟩; obtain ⟨hcx, hfx⟩ := bcell hb1; have hz1 : w.heap.size + 1 < w1.heap.size := (by have := hb1.size; (try simp at this); omega); have hz0 : w.heap.size < w1.heap.size := (by omega); have HB := Asd.mk (show Below w.heap.size w w1 from by first | exact below_st (((Below.refl _ _).alloc (Nat.le_refl _) _).alloc (by simp) _) hb1 | exact below_st HB.out hb1); clear hb1))
  go_ret
  exact ⟨by rw [e1.out]; rfl, by first | exact ((Below.refl _ _).alloc (Nat.le_refl _) _).alloc (by simp) _ | exact HB.out⟩
 rcases Bool.eq_false_or_eq_true (eqB x.At y.At) with q_At | q_At
 rotate_left
 ·have e1 := Hid.mk' (eqB_no (fun e => eqB_ne q_At (congrArg Run.At e)) : eqB x y = false)
  go_enter Tryz.func142, Tryz.ntmps142
  go_wp2_with (first | (go_at_call 29; refine (eqStringS_calls x.Texts y.Texts _ _ _ (h6.out.below (by first | exact ((Below.refl _ _).alloc (Nat.le_refl _) _).alloc (by simp) _ | exact HB.out)) (g6.out.below (by first | exact ((Below.refl _ _).alloc (Nat.le_refl _) _).alloc (by simp) _ | exact HB.out))).mono ?_; rintro e w1 ⟨rfl, hb1⟩; obtain ⟨hcx, hfx⟩ := bcell hb1; have hz1 : w.heap.size + 1 < w1.heap.size := (by have := hb1.size; (try simp at this); omega); have hz0 : w.heap.size < w1.heap.size := (by omega); have HB := Asd.mk (show Below w.heap.size w w1 from by first | exact below_st (((Below.refl _ _).alloc (Nat.le_refl _) _).alloc (by simp) _) hb1 | exact below_st HB.out hb1); clear hb1))
  go_ret
  exact ⟨by rw [e1.out]; rfl, by first | exact ((Below.refl _ _).alloc (Nat.le_refl _) _).alloc (by simp) _ | exact HB.out⟩
 rcases Bool.eq_false_or_eq_true (eqB x.Visits y.Visits) with q_Visits | q_Visits
 rotate_left
 ·have e1 := Hid.mk' (eqB_no (fun e => eqB_ne q_Visits (congrArg Run.Visits e)) : eqB x y = false)
  go_enter Tryz.func142, Tryz.ntmps142
  go_wp2_with (first | (go_at_call 29; refine (eqStringS_calls x.Texts y.Texts _ _ _ (h6.out.below (by first | exact ((Below.refl _ _).alloc (Nat.le_refl _) _).alloc (by simp) _ | exact HB.out)) (g6.out.below (by first | exact ((Below.refl _ _).alloc (Nat.le_refl _) _).alloc (by simp) _ | exact HB.out))).mono ?_; rintro e w1 ⟨rfl, hb1⟩; obtain ⟨hcx, hfx⟩ := bcell hb1; have hz1 : w.heap.size + 1 < w1.heap.size := (by have := hb1.size; (try simp at this); omega); have hz0 : w.heap.size < w1.heap.size := (by omega); have HB := Asd.mk (show Below w.heap.size w w1 from by first | exact below_st (((Below.refl _ _).alloc (Nat.le_refl _) _).alloc (by simp) _) hb1 | exact below_st HB.out hb1); clear hb1))
  go_ret
  exact ⟨by rw [e1.out]; rfl, by first | exact ((Below.refl _ _).alloc (Nat.le_refl _) _).alloc (by simp) _ | exact HB.out⟩
 rcases Bool.eq_false_or_eq_true (eqB x.Texts y.Texts) with q_Texts | q_Texts
 rotate_left
 ·have e1 := Hid.mk' (eqB_no (fun e => eqB_ne q_Texts (congrArg Run.Texts e)) : eqB x y = false)
  go_enter Tryz.func142, Tryz.ntmps142
  go_wp2_with (first | (go_at_call 29; refine (eqStringS_calls x.Texts y.Texts _ _ _ (h6.out.below (by first | exact ((Below.refl _ _).alloc (Nat.le_refl _) _).alloc (by simp) _ | exact HB.out)) (g6.out.below (by first | exact ((Below.refl _ _).alloc (Nat.le_refl _) _).alloc (by simp) _ | exact HB.out))).mono ?_; rintro e w1 ⟨rfl, hb1⟩; obtain ⟨hcx, hfx⟩ := bcell hb1; have hz1 : w.heap.size + 1 < w1.heap.size := (by have := hb1.size; (try simp at this); omega); have hz0 : w.heap.size < w1.heap.size := (by omega); have HB := Asd.mk (show Below w.heap.size w w1 from by first | exact below_st (((Below.refl _ _).alloc (Nat.le_refl _) _).alloc (by simp) _) hb1 | exact below_st HB.out hb1); clear hb1))
  go_ret
  exact ⟨by rw [e1.out]; rfl, by first | exact ((Below.refl _ _).alloc (Nat.le_refl _) _).alloc (by simp) _ | exact HB.out⟩
 have e1 := Hid.mk' (eqB_yes (show x = y by cases x; cases y; simp only [Run.mk.injEq]; exact ⟨eqB_of q_Name, eqB_of q_Over, eqB_of q_Fail, eqB_of q_Text, eqB_of q_At, eqB_of q_Visits, eqB_of q_Texts⟩) : eqB x y = true)
 go_enter Tryz.func142, Tryz.ntmps142
 go_wp2_with (first | (go_at_call 29; refine (eqStringS_calls x.Texts y.Texts _ _ _ (h6.out.below (by first | exact ((Below.refl _ _).alloc (Nat.le_refl _) _).alloc (by simp) _ | exact HB.out)) (g6.out.below (by first | exact ((Below.refl _ _).alloc (Nat.le_refl _) _).alloc (by simp) _ | exact HB.out))).mono ?_; rintro e w1 ⟨rfl, hb1⟩; obtain ⟨hcx, hfx⟩ := bcell hb1; have hz1 : w.heap.size + 1 < w1.heap.size := (by have := hb1.size; (try simp at this); omega); have hz0 : w.heap.size < w1.heap.size := (by omega); have HB := Asd.mk (show Below w.heap.size w w1 from by first | exact below_st (((Below.refl _ _).alloc (Nat.le_refl _) _).alloc (by simp) _) hb1 | exact below_st HB.out hb1); clear hb1))
 go_ret
 exact ⟨by rw [e1.out]; rfl, by first | exact ((Below.refl _ _).alloc (Nat.le_refl _) _).alloc (by simp) _ | exact HB.out⟩
set_option maxRecDepth 100000 in
set_option maxHeartbeats 2000000 in
theorem eqRunS_calls {tRun tRun' : Nat} (xs ys : List Run) (v u : Value) (w : World) (h : rep w (RunsT tRun xs) v) (h' : rep w (RunsT tRun' ys) u) :
  Calls Tryz.prog 78 #[v, u] w fun e w' => e = .returned (.bool (eqB xs ys)) ∧ Below w.heap.size w w' := by
 obtain ⟨A, c, rfl, hc, hn⟩ := rep_len h
 obtain ⟨A', c', rfl, hc', hn'⟩ := rep_len h'
 replace h := Asd.mk h
 replace h' := Asd.mk h'
 by_cases hl : xs.length = ys.length
 rotate_left
 ·have e1 := Hid.mk' (eqB_no (fun e => hl (congrArg List.length e)) : eqB xs ys = false)
  have hb : ((xs.length : Int) != (ys.length : Int)) = true := by simp; omega
  replace hl := Hid.mk' hl
  go_enter Tryz.func78, Tryz.ntmps78
  go_wp2
  go_ret
  exact ⟨by rw [e1.out]; rfl, Below.refl _ _⟩
 have hb : ((xs.length : Int) != (ys.length : Int)) = false := by simp; omega
 replace hl := Hid.mk' hl
 go_enter Tryz.func78, Tryz.ntmps78
 go_wp2
 go_loopw [5] (fun i wr => ∃ k : Nat, k ≤ xs.length ∧ i = .int .i64 k ∧ eqTo xs ys k ∧ Below w.heap.size w wr) (fun i _ => xs.length - (intOf i).toNat)
 case atStart => exact ⟨0, by omega, rfl, eqTo_zero _ _, Below.refl _ _⟩
 case round =>
  obtain ⟨k, hk, rfl, hA, hbr⟩ := hrel
  by_cases hlt : k < xs.length
  ·have hlt' : k < ys.length := by have := hl.out; omega
   obtain ⟨a, c', v6, he, k0, k1, k2, k3, k4, k5, k6, h6, hr⟩ := Run.elem (h.out.below hbr) hlt
   cases he
   obtain ⟨B6, b6, rfl, _, _⟩ := rep_len h6
   clear h6
   replace hr := Asd.mk hr
   obtain ⟨a, d', u6, he, m0, m1, m2, m3, m4, m5, m6, g6, gr⟩ := Run.elem (h'.out.below hbr) hlt'
   cases he
   obtain ⟨C6, d6, rfl, _, _⟩ := rep_len g6
   clear g6
   replace gr := Asd.mk gr
   cases hq : eqB xs[k] ys[k] with
   | true =>
    have e1 := eqTo_succ hA hlt hlt' (eqB_of hq)
    go_wp2
    go_still_tail 8, (by kernel_rfl)
    change wpList _ _ _ _ _ wr.drew
    go_wp2_with (first | (go_at_call 142; refine (eqRun_calls xs[k] ys[k] _ (hr.out.below (by exact Below.drew (Below.refl _ _))) (gr.out.below (by exact Below.drew (Below.refl _ _)))).mono ?_; rintro e w1 ⟨rfl, hb1⟩))
    go_roundw
    case rel => exact ⟨k + 1, by omega, by go_num, e1, below_st hbr.drew hb1⟩
    case measure => simp [intOf]; omega
   | false =>
    have e1 := Hid.mk' (eqB_no (ne_at hlt hlt' (eqB_ne hq)) : eqB xs ys = false)
    go_wp2
    go_still_tail 8, (by kernel_rfl)
    change wpList _ _ _ _ _ wr.drew
    go_wp2_with (first | (go_at_call 142; refine (eqRun_calls xs[k] ys[k] _ (hr.out.below (by exact Below.drew (Below.refl _ _))) (gr.out.below (by exact Below.drew (Below.refl _ _)))).mono ?_; rintro e w1 ⟨rfl, hb1⟩))
    go_ret
    exact ⟨by rw [e1.out]; rfl, below_st hbr.drew hb1⟩
  ·obtain rfl : k = xs.length := by omega
   have e1 := Hid.mk' (eqB_yes (eqTo_end hl.out hA))
   go_wp2
   go_ret
   exact ⟨by rw [e1.out]; rfl, hbr⟩
set_option maxRecDepth 100000 in
set_option maxHeartbeats 2000000 in
theorem eqState_calls {tRun tRun' : Nat} (x y : State) (w : World) {vs us : List Value} (h : reps w (x.c tRun) vs) (h' : reps w (y.c tRun') us) :
  Calls Tryz.prog 22 #[.agg vs.toArray, .agg us.toArray] w fun e w' => e = .returned (.bool (eqB x y)) ∧ Below w.heap.size w w' := by
 obtain ⟨v0, v1, rfl, h0, h1⟩ := State.ropen h
 obtain ⟨u0, u1, rfl, g0, g1⟩ := State.ropen h'
 obtain ⟨A0, c0, rfl, _, _⟩ := rep_len h0
 replace h0 := Asd.mk h0
 obtain ⟨B0, b0, rfl, _, _⟩ := rep_len g0
 replace g0 := Asd.mk g0
 obtain ⟨A1, c1, rfl, _, _⟩ := rep_len h1
 replace h1 := Asd.mk h1
 obtain ⟨B1, b1, rfl, _, _⟩ := rep_len g1
 replace g1 := Asd.mk g1
 clear h h'
 rcases Bool.eq_false_or_eq_true (eqB x.Roots y.Roots) with q_Roots | q_Roots
 rotate_left
 ·have e1 := Hid.mk' (eqB_no (fun e => eqB_ne q_Roots (congrArg State.Roots e)) : eqB x y = false)
  go_enter Tryz.func22, Tryz.ntmps22
  go_wp2_with (first | (go_at_call 29; refine (eqStringS_calls x.Roots y.Roots _ _ _ (h0.out.below (by first | exact ((Below.refl _ _).alloc (Nat.le_refl _) _).alloc (by simp) _ | exact HB.out)) (g0.out.below (by first | exact ((Below.refl _ _).alloc (Nat.le_refl _) _).alloc (by simp) _ | exact HB.out))).mono ?_; rintro e w1 ⟨rfl, hb1⟩; obtain ⟨hcx, hfx⟩ := bcell hb1; have hz1 : w.heap.size + 1 < w1.heap.size := (by have := hb1.size; (try simp at this); omega); have hz0 : w.heap.size < w1.heap.size := (by omega); have HB := Asd.mk (show Below w.heap.size w w1 from by first | exact below_st (((Below.refl _ _).alloc (Nat.le_refl _) _).alloc (by simp) _) hb1 | exact below_st HB.out hb1); clear hb1) | (go_at_call 78; refine (eqRunS_calls x.Runs y.Runs _ _ _ (h1.out.below (by first | exact ((Below.refl _ _).alloc (Nat.le_refl _) _).alloc (by simp) _ | exact HB.out)) (g1.out.below (by first | exact ((Below.refl _ _).alloc (Nat.le_refl _) _).alloc (by simp) _ | exact HB.out))).mono ?_; rintro e w1 ⟨rfl, hb1⟩; obtain ⟨hcx, hfx⟩ := bcell hb1; have hz1 : w.heap.size + 1 < w1.heap.size := (by have := hb1.size; (try simp at this); omega); have hz0 : w.heap.size < w1.heap.size := (by omega); have HB := Asd.mk (show Below w.heap.size w w1 from by first | exact below_st (((Below.refl _ _).alloc (Nat.le_refl _) _).alloc (by simp) _) hb1 | exact below_st HB.out hb1); clear hb1))
  go_ret
  exact ⟨by rw [e1.out]; rfl, by first | exact ((Below.refl _ _).alloc (Nat.le_refl _) _).alloc (by simp) _ | exact HB.out⟩
 rcases Bool.eq_false_or_eq_true (eqB x.Runs y.Runs) with q_Runs | q_Runs
 rotate_left
 ·have e1 := Hid.mk' (eqB_no (fun e => eqB_ne q_Runs (congrArg State.Runs e)) : eqB x y = false)
  go_enter Tryz.func22, Tryz.ntmps22
  go_wp2_with (first | (go_at_call 29; refine (eqStringS_calls x.Roots y.Roots _ _ _ (h0.out.below (by first | exact ((Below.refl _ _).alloc (Nat.le_refl _) _).alloc (by simp) _ | exact HB.out)) (g0.out.below (by first | exact ((Below.refl _ _).alloc (Nat.le_refl _) _).alloc (by simp) _ | exact HB.out))).mono ?_; rintro e w1 ⟨rfl, hb1⟩; obtain ⟨hcx, hfx⟩ := bcell hb1; have hz1 : w.heap.size + 1 < w1.heap.size := (by have := hb1.size; (try simp at this); omega); have hz0 : w.heap.size < w1.heap.size := (by omega); have HB := Asd.mk (show Below w.heap.size w w1 from by first | exact below_st (((Below.refl _ _).alloc (Nat.le_refl _) _).alloc (by simp) _) hb1 | exact below_st HB.out hb1); clear hb1) | (go_at_call 78; refine (eqRunS_calls x.Runs y.Runs _ _ _ (h1.out.below (by first | exact ((Below.refl _ _).alloc (Nat.le_refl _) _).alloc (by simp) _ | exact HB.out)) (g1.out.below (by first | exact ((Below.refl _ _).alloc (Nat.le_refl _) _).alloc (by simp) _ | exact HB.out))).mono ?_; rintro e w1 ⟨rfl, hb1⟩; obtain ⟨hcx, hfx⟩ := bcell hb1; have hz1 : w.heap.size + 1 < w1.heap.size := (by have := hb1.size; (try simp at this); omega); have hz0 : w.heap.size < w1.heap.size := (by omega); have HB := Asd.mk (show Below w.heap.size w w1 from by first | exact below_st (((Below.refl _ _).alloc (Nat.le_refl _) _).alloc (by simp) _) hb1 | exact below_st HB.out hb1); clear hb1))
  go_ret
  exact ⟨by rw [e1.out]; rfl, by first | exact ((Below.refl _ _).alloc (Nat.le_refl _) _).alloc (by simp) _ | exact HB.out⟩
 have e1 := Hid.mk' (eqB_yes (show x = y by cases x; cases y; simp only [State.mk.injEq]; exact ⟨eqB_of q_Roots, eqB_of q_Runs⟩) : eqB x y = true)
 go_enter Tryz.func22, Tryz.ntmps22
 go_wp2_with (first | (go_at_call 29; refine (eqStringS_calls x.Roots y.Roots _ _ _ (h0.out.below (by first | exact ((Below.refl _ _).alloc (Nat.le_refl _) _).alloc (by simp) _ | exact HB.out)) (g0.out.below (by first | exact ((Below.refl _ _).alloc (Nat.le_refl _) _).alloc (by simp) _ | exact HB.out))).mono ?_; rintro e w1 ⟨rfl, hb1⟩; obtain ⟨hcx, hfx⟩ := bcell hb1; have hz1 : w.heap.size + 1 < w1.heap.size := (by have := hb1.size; (try simp at this); omega); have hz0 : w.heap.size < w1.heap.size := (by omega); have HB := Asd.mk (show Below w.heap.size w w1 from by first | exact below_st (((Below.refl _ _).alloc (Nat.le_refl _) _).alloc (by simp) _) hb1 | exact below_st HB.out hb1); clear hb1) | (go_at_call 78; refine (eqRunS_calls x.Runs y.Runs _ _ _ (h1.out.below (by first | exact ((Below.refl _ _).alloc (Nat.le_refl _) _).alloc (by simp) _ | exact HB.out)) (g1.out.below (by first | exact ((Below.refl _ _).alloc (Nat.le_refl _) _).alloc (by simp) _ | exact HB.out))).mono ?_; rintro e w1 ⟨rfl, hb1⟩; obtain ⟨hcx, hfx⟩ := bcell hb1; have hz1 : w.heap.size + 1 < w1.heap.size := (by have := hb1.size; (try simp at this); omega); have hz0 : w.heap.size < w1.heap.size := (by omega); have HB := Asd.mk (show Below w.heap.size w w1 from by first | exact below_st (((Below.refl _ _).alloc (Nat.le_refl _) _).alloc (by simp) _) hb1 | exact below_st HB.out hb1); clear hb1))
 go_ret
 exact ⟨by rw [e1.out]; rfl, by first | exact ((Below.refl _ _).alloc (Nat.le_refl _) _).alloc (by simp) _ | exact HB.out⟩
end Go.Proofs.YtkpkfihaihoaeaaGreatDoor.M
end
section
set_option linter.unusedVariables false
set_option linter.unusedSimpArgs false
namespace Go.Proofs.YtkpkfihaihoaeaaGreatDoor.M
open Go.RowKit
/-- webs -/
def ltS (a b : ByteArray) : Bool := Op.bytesLess a.toList b.toList
def nodeNameOk (n : Node) : Bool := nameOk n.Name
def nodeActOk (n : Node) : Bool := actionOk n.Action
/-- the names before a place ascend -/
def ascTo (xs : List Node) (k : Nat) : Prop := ∀ (i : Nat) (h : i + 1 < xs.length), i < k → ltS xs[i].Name xs[i + 1].Name = true
def ascB : List Node → Bool
 | a :: b :: r => ltS a.Name b.Name && ascB (b :: r)
 | _ => true
theorem ascB_iff : ∀ (xs : List Node), ascB xs = true ↔ ∀ (i : Nat) (h : i + 1 < xs.length), ltS xs[i].Name xs[i + 1].Name = true
 | [] => by simp [ascB]
 | [a] => by simp [ascB]
 | a :: b :: r => by
  rw [ascB, Bool.and_eq_true, ascB_iff (b :: r)]
  constructor
  ·rintro ⟨h1, h2⟩ i hi
   cases i with
   | zero => exact h1
   | succ i => exact h2 i (by simpa using hi)
  ·intro h
   exact ⟨h 0 (by simp), fun i hi => h (i + 1) (by simpa using hi)⟩
theorem ascTo_zero (xs : List Node) : ascTo xs 0 := fun i _ h => absurd h (Nat.not_lt_zero _)
theorem ascTo_succ {xs : List Node} {k : Nat} (h : ascTo xs k) (hk : k + 1 < xs.length) (hx : ltS xs[k].Name xs[k + 1].Name = true) : ascTo xs (k + 1) := by
 intro i hi hik
 rcases Nat.lt_succ_iff_lt_or_eq.1 hik with hik | rfl
 ·exact h i hi hik
 ·exact hx
theorem ascTo_end {xs : List Node} {k : Nat} (h : ascTo xs k) (hk : xs.length ≤ k + 1) : ascB xs = true := by
 exact (ascB_iff xs).2 (fun i hi => h i hi (by omega))
theorem ascB_not {xs : List Node} {k : Nat} (hk : k + 1 < xs.length) (hx : ltS xs[k].Name xs[k + 1].Name = false) : ascB xs = false := by
 rw [Bool.eq_false_iff]
 intro h
 have := (ascB_iff xs).1 h k hk
 rw [this] at hx; cases hx
def checkWeb (w : Web) : Int :=
 if 60 < w.Nodes.length then 1 else if w.Nodes.all nodeNameOk = false then 2 else if ascB w.Nodes = false then 3 else if w.Nodes.all nodeActOk = false then 4 else 0
theorem checkWeb1 {w : Web} (h : 60 < w.Nodes.length) : checkWeb w = 1 := if_pos h
theorem checkWeb2 {w : Web} (h : ¬60 < w.Nodes.length) (h2 : w.Nodes.all nodeNameOk = false) : checkWeb w = 2 := by rw [checkWeb, if_neg h, if_pos h2]
theorem checkWeb3 {w : Web} (h : ¬60 < w.Nodes.length) (h2 : w.Nodes.all nodeNameOk = true) (h3 : ascB w.Nodes = false) : checkWeb w = 3 := by rw [checkWeb, if_neg h, if_neg (by simp [h2]), if_pos h3]
theorem checkWeb4 {w : Web} (h : ¬60 < w.Nodes.length) (h2 : w.Nodes.all nodeNameOk = true) (h3 : ascB w.Nodes = true) (h4 : w.Nodes.all nodeActOk = false) : checkWeb w = 4 := by rw [checkWeb, if_neg h, if_neg (by simp [h2]), if_neg (by simp [h3]), if_pos h4]
theorem checkWeb0 {w : Web} (h : ¬60 < w.Nodes.length) (h2 : w.Nodes.all nodeNameOk = true) (h3 : ascB w.Nodes = true) (h4 : w.Nodes.all nodeActOk = true) : checkWeb w = 0 := by rw [checkWeb, if_neg h, if_neg (by simp [h2]), if_neg (by simp [h3]), if_neg (by simp [h4])]
def Web.Sm (w : Web) : Prop := ∀ n ∈ w.Nodes, n.Action.Sm
end Go.Proofs.YtkpkfihaihoaeaaGreatDoor.M
end
