/- Data as trees: how a value reads in a world ('rep'), and how it lies in blocks of its own ('own'); the laws of make, append and stores for such values. -/
import Derived.Below
import Derived.OwnWalk
import Derived.Maps.AppendAt
import Derived.Laws.MakeOwn
import Derived.Laws.OwnMore
import Derived.Deep.AppendLies
import Derived.Deep.AppendSrc
import Derived.Deep.Upon
import Derived.WalkKit
import Derived.KernelRfl
import Derived.RowKit3
import Derived.Deep.LoopGhost
import Derived.Deep.QuietTactic
import Derived.BigQuiet
import Derived.WalkLawsBesides
import Derived.WalkSpells
import Derived.Deep.DeepCutAuto
import Derived.Deep.CutBlock
import Derived.Deep.RegionHeld3
set_option linter.unusedVariables false
set_option linter.unusedSimpArgs false
namespace Go.Proofs.Ytmjfkjdfmpileaa.M
open Go.RowKit

/-- A fact that the walk's simp does not look into. -/
structure Asd (p : Prop) : Prop where mk :: (out : p)

instance : LawfulBEq ByteArray where
  eq_of_beq {a b} h := by
    cases a; cases b
    change ByteArray.beq _ _ = true at h
    unfold ByteArray.beq at h
    simp at h
    rw [h]
  rfl {a} := by cases a; change ByteArray.beq _ _ = true; unfold ByteArray.beq; simp

/-- Data. -/
inductive T where
  | i (k : IntKind) (n : Int)
  | b (x : Bool)
  | s (x : ByteArray)
  | l (e sz n : Nat) (cells : List T)

mutual
def rep (w : World) : T → Value → Prop
  | .i k n, v => v = .int k n
  | .b x, v => v = .bool x
  | .s x, v => v = .string x
  | .l _ sz n cells, v => cells.length = n * sz ∧ n ≤ 9223372036854775807 ∧ ∃ A c vs, v = .slice A n c ∧ n ≤ c ∧ reps w cells vs ∧ (0 < n → ∃ a, A = some a ∧ ∀ j u, vs[j]? = some u → w.cell? (a.add j) = some u)
def reps (w : World) : List T → List Value → Prop
  | [], vs => vs = []
  | t :: ts, vs => ∃ v us, vs = v :: us ∧ rep w t v ∧ reps w ts us
end

mutual
def own (w : World) : T → Value → List Nat → Prop
  | .i k n, v, F => v = .int k n ∧ F = []
  | .b x, v, F => v = .bool x ∧ F = []
  | .s x, v, F => v = .string x ∧ F = []
  | .l e sz n cells, v, F => (∃ vs G, w.ownsRow 0 e sz v n vs ∧ owns w cells vs G ∧ F = v.ownBlock.toList ++ G ∧ ∀ k, v.ownBlock = some k → k ∉ G) ∨ (n = 0 ∧ cells = [] ∧ F = [] ∧ ∃ A, v = .slice (some A) 0 0)
def owns (w : World) : List T → List Value → List Nat → Prop
  | [], vs, F => vs = [] ∧ F = []
  | t :: ts, vs, F => ∃ v us F1 F2, vs = v :: us ∧ own w t v F1 ∧ owns w ts us F2 ∧ F = F1 ++ F2
end

theorem add_zero' (g j : Nat) : (⟨g, 0, none⟩ : Addr).add j = ⟨g, j, none⟩ := by unfold Addr.add; split <;> simp_all
theorem add_fld (ad : Addr) (m j : Nat) (hj : 0 < j) : ad.add (m + j) = ⟨(ad.add m).block, (ad.add m).off + j, none⟩ := by
  unfold Addr.add
  by_cases hm : m = 0
  · subst hm
    simp [Nat.ne_of_gt hj]
  · simp [hm, Nat.ne_of_gt hj, show m + j ≠ 0 by omega, Nat.add_assoc]
theorem cell_below {w w1 : World} (h : Below w.heap.size w w1) {a : Addr} {v : Value} (hc : w.cell? a = some v) : w1.cell? a = some v := (h.cell (World.block_lt_of_cell? w a hc)).trans hc

theorem bcell {W w1 : World} (hb : Below W.heap.size W w1) : (∀ b o, b < W.heap.size → w1.cell? ⟨b, o, none⟩ = W.cell? ⟨b, o, none⟩) ∧ (∀ b o, b < W.heap.size → w1.frozen? ⟨b, o, none⟩ = W.frozen? ⟨b, o, none⟩) :=
  ⟨fun b o h => hb.cell (p := ⟨b, o, none⟩) h, fun b o h => hb.frozen (p := ⟨b, o, none⟩) h⟩
theorem below_al {w W : World} (h : Below w.heap.size w W) (o : Obj) : Below w.heap.size w (W.alloc o) := h.alloc h.size o
theorem below_st {w W w2 : World} (h : Below w.heap.size w W) (k : Below W.heap.size W w2) : Below w.heap.size w w2 := h.trans (k.mono h.size)
theorem below_d1 {w W : World} (h : Below w.heap.size w W) : Below w.heap.size w W.drew := ⟨h.os, h.tape, h.output, h.size, h.block⟩
theorem below_dr {w W : World} (h : Below w.heap.size w W) (n : Nat) : Below w.heap.size w (W.drewN n) := ⟨h.os, h.tape, h.output, h.size, h.block⟩

/-! ### reading -/
mutual
theorem rep_below {w w1 : World} (hb : Below w.heap.size w w1) : ∀ (t : T) (v : Value), rep w t v → rep w1 t v
  | .i _ _, _, h => h
  | .b _, _, h => h
  | .s _, _, h => h
  | .l _ _ _ cells, v, h => by
    simp only [rep] at h ⊢
    obtain ⟨h0, h1, A, c, vs, rfl, hc, hr, hcl⟩ := h
    refine ⟨h0, h1, A, c, vs, rfl, hc, reps_below hb cells vs hr, fun hn => ?_⟩
    obtain ⟨a, ha, hu⟩ := hcl hn
    exact ⟨a, ha, fun j u hj => cell_below hb (hu j u hj)⟩
theorem reps_below {w w1 : World} (hb : Below w.heap.size w w1) : ∀ (ts : List T) (vs : List Value), reps w ts vs → reps w1 ts vs
  | [], _, h => h
  | t :: ts, vs, h => by
    simp only [reps] at h ⊢
    obtain ⟨v, us, rfl, h1, h2⟩ := h
    exact ⟨v, us, rfl, rep_below hb t v h1, reps_below hb ts us h2⟩
end
theorem rep.below {w w1 : World} {t : T} {v : Value} (h : rep w t v) (hb : Below w.heap.size w w1) : rep w1 t v := rep_below hb t v h
theorem reps.below {w w1 : World} {t : List T} {v : List Value} (h : reps w t v) (hb : Below w.heap.size w w1) : reps w1 t v := reps_below hb t v h

theorem reps_length {w : World} : ∀ {ts : List T} {vs : List Value}, reps w ts vs → vs.length = ts.length
  | [], _, h => by simp only [reps] at h; subst h; rfl
  | _ :: ts, _, h => by
    simp only [reps] at h
    obtain ⟨v, us, rfl, _, h2⟩ := h
    simp [reps_length h2]
theorem reps_append {w : World} : ∀ {ts us : List T} {vs xs : List Value}, reps w ts vs → reps w us xs → reps w (ts ++ us) (vs ++ xs)
  | [], _, _, _, h, k => by simp only [reps] at h; subst h; exact k
  | t :: ts, us, _, xs, h, k => by
    simp only [reps] at h
    obtain ⟨v, vs, rfl, h1, h2⟩ := h
    simp only [List.cons_append, reps]
    exact ⟨v, vs ++ xs, rfl, h1, reps_append h2 k⟩
theorem reps_drop {w : World} : ∀ (k : Nat) {ts : List T} {vs : List Value}, reps w ts vs → reps w (ts.drop k) (vs.drop k)
  | 0, _, _, h => by simpa using h
  | k + 1, [], _, h => by simp only [reps] at h; subst h; simp [reps]
  | k + 1, t :: ts, _, h => by
    simp only [reps] at h
    obtain ⟨v, us, rfl, _, h2⟩ := h
    simpa using reps_drop k h2
theorem reps_take {w : World} : ∀ (k : Nat) {ts : List T} {vs : List Value}, reps w ts vs → reps w (ts.take k) (vs.take k)
  | 0, _, _, h => by simp [reps]
  | k + 1, [], _, h => by simp only [reps] at h; subst h; simp [reps]
  | k + 1, t :: ts, _, h => by
    simp only [reps] at h
    obtain ⟨v, us, rfl, h1, h2⟩ := h
    simp only [List.take_succ_cons, reps]
    exact ⟨v, _, rfl, h1, reps_take k h2⟩

/-! ### a list of structs as a tree -/
def tl {α : Type} (e sz : Nat) (enc : α → List T) (xs : List α) : T := .l e sz xs.length (xs.flatMap enc)
/-- the kinds' own -/
def strC (x : ByteArray) : List T := [.s x]
def intC (x : Int) : List T := [.i .i64 x]
def byteC (x : UInt8) : List T := [.i .u8 x.toNat]
def strsT (e : Nat) (xs : List ByteArray) : T := tl e 1 strC xs
def intsT (e : Nat) (xs : List Int) : T := tl e 1 intC xs
def bytesT (e : Nat) (xs : List UInt8) : T := tl e 1 byteC xs

theorem drop_flatMap {α β : Type} (f : α → List β) (sz : Nat) (hf : ∀ x, (f x).length = sz) : ∀ (xs : List α) (i : Nat), (xs.flatMap f).drop (i * sz) = (xs.drop i).flatMap f
  | [], i => by simp
  | x :: xs, 0 => by simp
  | x :: xs, i + 1 => by
    rw [List.flatMap_cons, List.drop_succ_cons, ← drop_flatMap f sz hf xs i, Nat.add_mul, Nat.one_mul, Nat.add_comm, ← List.drop_drop]
    congr 1
    rw [List.drop_append_of_le_length (by rw [hf]; omega), List.drop_of_length_le (by rw [hf]; omega)]
    rfl
theorem take_flatMap {α β : Type} (f : α → List β) (sz : Nat) (hf : ∀ x, (f x).length = sz) : ∀ (xs : List α) (i : Nat), (xs.flatMap f).take (i * sz) = (xs.take i).flatMap f
  | [], i => by simp
  | x :: xs, 0 => by simp
  | x :: xs, i + 1 => by
    rw [List.flatMap_cons, List.take_succ_cons, List.flatMap_cons, ← take_flatMap f sz hf xs i, Nat.add_mul, Nat.one_mul, List.take_append, hf, Nat.add_sub_cancel, List.take_of_length_le (by rw [hf]; omega)]
theorem length_flatMap {α β : Type} (f : α → List β) (sz : Nat) (hf : ∀ x, (f x).length = sz) : ∀ (xs : List α), (xs.flatMap f).length = xs.length * sz
  | [] => by simp
  | x :: xs => by rw [List.flatMap_cons, List.length_append, hf, length_flatMap f sz hf xs, List.length_cons, Nat.add_mul]; omega

/-- Element i of a slice that reads as a list. -/
theorem rep_elem {α : Type} {w : World} {e sz : Nat} {enc : α → List T} {xs : List α} {v : Value} (h : rep w (tl e sz enc xs) v) (hf : ∀ x, (enc x).length = sz) {i : Nat} (hi : i < xs.length) :
    ∃ a c us, v = .slice (some a) xs.length c ∧ xs.length ≤ c ∧ xs.length ≤ 9223372036854775807 ∧ reps w (enc xs[i]) us ∧ ∀ q u, us[q]? = some u → w.cell? (a.add (i * sz + q)) = some u := by
  simp only [tl, rep] at h
  obtain ⟨h0, h1, A, c, vs, rfl, hc, hr, hcl⟩ := h
  obtain ⟨a, rfl, hu⟩ := hcl (by omega)
  have hd := reps_take sz (reps_drop (i * sz) hr)
  rw [drop_flatMap enc sz hf, List.drop_eq_getElem_cons hi, List.flatMap_cons, List.take_append_of_le_length (by rw [hf]; omega), List.take_of_length_le (by rw [hf]; omega)] at hd
  refine ⟨a, c, _, rfl, hc, h1, hd, fun q u hq => hu _ _ ?_⟩
  rw [List.getElem?_take] at hq
  split at hq
  · rwa [List.getElem?_drop] at hq
  · cases hq
/-- The shape of a slice that reads as a list. -/
theorem rep_len {α : Type} {w : World} {e sz : Nat} {enc : α → List T} {xs : List α} {v : Value} (h : rep w (tl e sz enc xs) v) : ∃ A c, v = .slice A xs.length c ∧ xs.length ≤ c ∧ xs.length ≤ 9223372036854775807 := by
  simp only [tl, rep] at h
  obtain ⟨h0, h1, A, c, vs, rfl, hc, hr, hcl⟩ := h
  exact ⟨A, c, rfl, hc, h1⟩

/-- xs[:k] -/
theorem rep_take {α : Type} {w : World} {e sz : Nat} {enc : α → List T} {xs : List α} {A : Option Addr} {n c : Nat} (h : rep w (tl e sz enc xs) (.slice A n c)) (hf : ∀ x, (enc x).length = sz) {k : Nat} (hk : k ≤ xs.length) : rep w (tl e sz enc (xs.take k)) (.slice A k c) := by
  simp only [tl, rep] at h ⊢
  obtain ⟨h0, h1, A', c', vs, he, hc, hr, hcl⟩ := h
  cases he
  have hl : (xs.take k).length = k := by simp; omega
  have ht := (take_flatMap enc sz hf xs k).symm
  refine ⟨length_flatMap enc sz hf _, by omega, A, c, vs.take (k * sz), by rw [hl], by omega, by rw [ht]; exact reps_take _ hr, fun hp => ?_⟩
  obtain ⟨a, ha, hu⟩ := hcl (by omega)
  refine ⟨a, ha, fun j u hj => hu j u ?_⟩
  rw [List.getElem?_take] at hj
  split at hj
  · exact hj
  · cases hj

/-! ### owning -/
mutual
theorem own_lt {w : World} : ∀ (t : T) (v : Value) (F : List Nat), own w t v F → ∀ k ∈ F, k < w.heap.size
  | .i _ _, _, _, h, k, hk => by simp only [own] at h; rw [h.2] at hk; cases hk
  | .b _, _, _, h, k, hk => by simp only [own] at h; rw [h.2] at hk; cases hk
  | .s _, _, _, h, k, hk => by simp only [own] at h; rw [h.2] at hk; cases hk
  | .l _ _ _ cells, v, _, h, k, hk => by
    simp only [own] at h
    rcases h with ⟨vs, G, ho, hr, rfl, _⟩ | ⟨_, _, rfl, _⟩
    rotate_left
    · cases hk
    rcases List.mem_append.1 hk with hk | hk
    · exact (ho.lt k (by cases hv : v.ownBlock <;> simp_all)).2
    · exact owns_lt cells vs G hr k hk
theorem owns_lt {w : World} : ∀ (ts : List T) (vs : List Value) (F : List Nat), owns w ts vs F → ∀ k ∈ F, k < w.heap.size
  | [], _, _, h, k, hk => by simp only [owns] at h; rw [h.2] at hk; cases hk
  | t :: ts, _, _, h, k, hk => by
    simp only [owns] at h
    obtain ⟨v, us, F1, F2, rfl, h1, h2, rfl⟩ := h
    rcases List.mem_append.1 hk with hk | hk
    · exact own_lt t v F1 h1 k hk
    · exact owns_lt ts us F2 h2 k hk
end
theorem ownsRow_move {w w1 : World} {base : Nat} {e : TypeId} {size n : Nat} {v : Value} {xs : List Value} (h : w.ownsRow base e size v n xs) (hm : ∀ k, v.ownBlock = some k → w1.heap[k]? = w.heap[k]?) : w1.ownsRow base e size v n xs := by
  obtain ⟨h1, h2⟩ := h
  refine ⟨h1, ?_⟩
  rcases h2 with h2 | ⟨g, cap, cur, rfl, hg, hh, r⟩
  · exact .inl h2
  · exact .inr ⟨g, cap, cur, rfl, hg, (hm g (by simp [Value.ownBlock])).trans hh, r⟩
mutual
theorem own_move {w w1 : World} : ∀ (t : T) (v : Value) (F : List Nat), (∀ k ∈ F, w1.heap[k]? = w.heap[k]?) → own w t v F → own w1 t v F
  | .i _ _, _, _, _, h => h
  | .b _, _, _, _, h => h
  | .s _, _, _, _, h => h
  | .l _ _ _ cells, v, _, hm, h => by
    simp only [own] at h ⊢
    rcases h with ⟨vs, G, ho, hr, rfl, hn⟩ | h
    rotate_left
    · exact .inr h
    refine .inl ⟨vs, G, ownsRow_move ho (fun k hk => hm k (by simp [hk])), owns_move cells vs G (fun k hk => hm k (List.mem_append_right _ hk)) hr, rfl, hn⟩
theorem owns_move {w w1 : World} : ∀ (ts : List T) (vs : List Value) (F : List Nat), (∀ k ∈ F, w1.heap[k]? = w.heap[k]?) → owns w ts vs F → owns w1 ts vs F
  | [], _, _, _, h => h
  | t :: ts, _, _, hm, h => by
    simp only [owns] at h ⊢
    obtain ⟨v, us, F1, F2, rfl, h1, h2, rfl⟩ := h
    exact ⟨v, us, F1, F2, rfl, own_move t v F1 (fun k hk => hm k (List.mem_append_left _ hk)) h1, owns_move ts us F2 (fun k hk => hm k (List.mem_append_right _ hk)) h2, rfl⟩
end
section
variable {w w1 : World} {t : T} {v : Value} {ts : List T} {vs : List Value} {F : List Nat}
theorem own.lt (h : own w t v F) : ∀ k ∈ F, k < w.heap.size := own_lt t v F h
theorem owns.lt (h : owns w ts vs F) : ∀ k ∈ F, k < w.heap.size := owns_lt ts vs F h
theorem own.move (h : own w t v F) (hm : ∀ k ∈ F, w1.heap[k]? = w.heap[k]?) : own w1 t v F := own_move t v F hm h
theorem owns.move (h : owns w ts vs F) (hm : ∀ k ∈ F, w1.heap[k]? = w.heap[k]?) : owns w1 ts vs F := owns_move ts vs F hm h
theorem own.below (h : own w t v F) (hb : Below w.heap.size w w1) : own w1 t v F := h.move fun k hk => hb.block k (h.lt k hk)
theorem owns.below (h : owns w ts vs F) (hb : Below w.heap.size w w1) : owns w1 ts vs F := h.move fun k hk => hb.block k (h.lt k hk)
theorem own.set (h : own w t v F) {p : Addr} (hp : p.block ∉ F) (u : Value) : own (w.setCell p u) t v F := h.move fun k hk => Below.heap_setCell w p u k (fun e => hp (e ▸ hk))
theorem owns.set (h : owns w ts vs F) {p : Addr} (hp : p.block ∉ F) (u : Value) : owns (w.setCell p u) ts vs F := h.move fun k hk => Below.heap_setCell w p u k (fun e => hp (e ▸ hk))
theorem own.alloc (h : own w t v F) (o : Obj) : own (w.alloc o) t v F := h.below ((Below.refl _ _).alloc (Nat.le_refl _) o)
theorem owns.alloc (h : owns w ts vs F) (o : Obj) : owns (w.alloc o) ts vs F := h.below ((Below.refl _ _).alloc (Nat.le_refl _) o)
theorem own.grown (h : own w t v F) {row : Option Nat} (hg : w.grownBy w1 row) (hr : ∀ k, row = some k → k ∉ F) : own w1 t v F := h.move fun k hk => hg.block k (h.lt k hk) (fun e => hr k e.symm hk)
theorem owns.grown (h : owns w ts vs F) {row : Option Nat} (hg : w.grownBy w1 row) (hr : ∀ k, row = some k → k ∉ F) : owns w1 ts vs F := h.move fun k hk => hg.block k (h.lt k hk) (fun e => hr k e.symm hk)
end

theorem owns_length {w : World} : ∀ {ts : List T} {vs : List Value} {F : List Nat}, owns w ts vs F → vs.length = ts.length
  | [], _, _, h => by simp only [owns] at h; rw [h.1]; rfl
  | _ :: ts, _, _, h => by
    simp only [owns] at h
    obtain ⟨v, us, F1, F2, rfl, _, h2, _⟩ := h
    simp [owns_length h2]
theorem owns_append {w : World} : ∀ {ts us : List T} {vs xs : List Value} {F G : List Nat}, owns w ts vs F → owns w us xs G → owns w (ts ++ us) (vs ++ xs) (F ++ G)
  | [], _, _, _, _, _, h, k => by simp only [owns] at h; rw [h.1, h.2]; exact k
  | t :: ts, us, _, xs, _, G, h, k => by
    simp only [owns] at h
    obtain ⟨v, vs, F1, F2, rfl, h1, h2, rfl⟩ := h
    simp only [List.cons_append, owns]
    exact ⟨v, vs ++ xs, F1, F2 ++ G, rfl, h1, owns_append h2 k, by simp⟩
theorem owns_split {w : World} : ∀ {ts us : List T} {vs : List Value} {F : List Nat}, owns w (ts ++ us) vs F → ∃ v1 v2 F1 F2, vs = v1 ++ v2 ∧ owns w ts v1 F1 ∧ owns w us v2 F2 ∧ F = F1 ++ F2
  | [], us, vs, F, h => ⟨[], vs, [], F, rfl, by simp [owns], h, rfl⟩
  | t :: ts, us, vs, F, h => by
    simp only [List.cons_append, owns] at h
    obtain ⟨v, xs, F1, F2, rfl, h1, h2, rfl⟩ := h
    obtain ⟨v1, v2, G1, G2, rfl, k1, k2, rfl⟩ := owns_split h2
    refine ⟨v :: v1, v2, F1 ++ G1, G2, rfl, ?_, k2, by simp⟩
    simp only [owns]
    exact ⟨v, v1, F1, G1, rfl, h1, k1, rfl⟩
theorem own_one {w : World} {t : T} {v : Value} {F : List Nat} (h : own w t v F) : v.oneCell' = true := by
  cases t with
  | i => simp only [own] at h; rw [h.1]; rfl
  | b => simp only [own] at h; rw [h.1]; rfl
  | s => simp only [own] at h; rw [h.1]; rfl
  | l =>
    simp only [own] at h
    rcases h with ⟨vs, G, ho, _⟩ | ⟨_, _, _, A, rfl⟩
    rotate_left
    · rfl
    rcases ho.2 with ⟨rfl, _⟩ | ⟨g, cap, cur, rfl, _⟩ <;> rfl
theorem owns_one {w : World} : ∀ {ts : List T} {vs : List Value} {F : List Nat}, owns w ts vs F → ∀ u ∈ vs, u.oneCell' = true
  | [], _, _, h, u, hu => by simp only [owns] at h; rw [h.1] at hu; cases hu
  | _ :: ts, _, _, h, u, hu => by
    simp only [owns] at h
    obtain ⟨v, us, F1, F2, rfl, h1, h2, _⟩ := h
    rcases List.mem_cons.1 hu with rfl | hu
    · exact own_one h1
    · exact owns_one h2 u hu

mutual
theorem own_rep {w : World} : ∀ (t : T) (v : Value) (F : List Nat), own w t v F → rep w t v
  | .i _ _, _, _, h => by simp only [own] at h; simp only [rep]; exact h.1
  | .b _, _, _, h => by simp only [own] at h; simp only [rep]; exact h.1
  | .s _, _, _, h => by simp only [own] at h; simp only [rep]; exact h.1
  | .l e sz n cells, v, _, h => by
    simp only [own] at h
    simp only [rep]
    rcases h with ⟨vs, G, ho, hr, _, _⟩ | ⟨rfl, rfl, _, A, rfl⟩
    rotate_left
    · exact ⟨by simp, by omega, some A, 0, [], rfl, Nat.le_refl _, by simp only [reps], fun hn => absurd hn (Nat.lt_irrefl _)⟩
    have hl := owns_length hr
    have hx := owns_rep cells vs G hr
    rcases ho.2 with ⟨rfl, rfl⟩ | ⟨g, cap, cur, rfl, _, hh, hc, hm, _⟩
    · exact ⟨by rw [← hl, ho.1], by omega, none, 0, vs, rfl, Nat.le_refl _, hx, fun hn => absurd hn (by omega)⟩
    · exact ⟨by rw [← hl, ho.1], by simp only [maxLen] at hm; omega, _, cap, vs, rfl, hc, hx, fun _ => ⟨_, rfl, fun j u hj => ho.cells (g := g) rfl j u hj⟩⟩
theorem owns_rep {w : World} : ∀ (ts : List T) (vs : List Value) (F : List Nat), owns w ts vs F → reps w ts vs
  | [], _, _, h => by simp only [owns] at h; simp only [reps]; exact h.1
  | t :: ts, _, _, h => by
    simp only [owns] at h
    obtain ⟨v, us, F1, F2, rfl, h1, h2, rfl⟩ := h
    simp only [reps]
    exact ⟨v, us, rfl, own_rep t v F1 h1, owns_rep ts us F2 h2⟩
end
theorem own.rep {w : World} {t : T} {v : Value} {F : List Nat} (h : own w t v F) : rep w t v := own_rep t v F h
theorem owns.rep {w : World} {t : List T} {v : List Value} {F : List Nat} (h : owns w t v F) : reps w t v := owns_rep t v F h

theorem own_i (w : World) (k : IntKind) (n : Int) : own w (.i k n) (.int k n) [] := by unfold own; exact ⟨rfl, rfl⟩
theorem own_b (w : World) (x : Bool) : own w (.b x) (.bool x) [] := by unfold own; exact ⟨rfl, rfl⟩
theorem own_s (w : World) (x : ByteArray) : own w (.s x) (.string x) [] := by unfold own; exact ⟨rfl, rfl⟩
theorem strC_own (w : World) (x : ByteArray) : owns w (strC x) [.string x] [] := by simp only [strC, owns]; exact ⟨_, _, [], [], rfl, own_s _ _, ⟨rfl, rfl⟩, rfl⟩
theorem own_nil (w : World) (e sz : Nat) : own w (.l e sz 0 []) (.slice none 0 0) [] := by
  unfold own
  exact .inl ⟨[], [], w.ownsRow_nil 0 e sz, by unfold owns; exact ⟨rfl, rfl⟩, rfl, fun k hk => by cases hk⟩
/-- A slice of no element and no room, wherever it points to. -/
theorem own_none (w : World) (e sz : Nat) (A : Addr) : own w (.l e sz 0 []) (.slice (some A) 0 0) [] := by
  unfold own
  exact .inr ⟨rfl, rfl, rfl, A, rfl⟩

/-- One cell set. -/
theorem owns_setAt {w : World} {t' : T} {v' : Value} {F' : List Nat} (ht : own w t' v' F') : ∀ {ts : List T} {vs : List Value} {F : List Nat} (j : Nat), j < ts.length → owns w ts vs F →
    ∃ F2, owns w (ts.set j t') (vs.set j v') F2 ∧ (∀ k ∈ F2, k ∈ F ∨ k ∈ F') ∧ (F.Nodup → F'.Nodup → (∀ k ∈ F', k ∉ F) → F2.Nodup)
  | [], _, _, _, hj, _ => by simp at hj
  | t :: ts, _, _, 0, _, h => by
    simp only [owns] at h
    obtain ⟨v, us, F1, F2, rfl, h1, h2, rfl⟩ := h
    refine ⟨F' ++ F2, ?_, fun k hk => ?_, fun hF hF' hd => ?_⟩
    · simp only [List.set_cons_zero, owns]
      exact ⟨v', us, F', F2, rfl, ht, h2, rfl⟩
    · rcases List.mem_append.1 hk with hk | hk
      · exact .inr hk
      · exact .inl (List.mem_append_right _ hk)
    · exact List.nodup_append.2 ⟨hF', (List.nodup_append.1 hF).2.1, fun a ha b hb e => hd a ha (e ▸ List.mem_append_right _ hb)⟩
  | t :: ts, _, _, j + 1, hj, h => by
    simp only [owns] at h
    obtain ⟨v, us, F1, F2, rfl, h1, h2, rfl⟩ := h
    obtain ⟨F3, k1, k2, k3⟩ := owns_setAt ht j (by simpa using hj) h2
    refine ⟨F1 ++ F3, ?_, fun k hk => ?_, fun hF hF' hd => ?_⟩
    · simp only [List.set_cons_succ, owns]
      exact ⟨v, us.set j v', F1, F3, rfl, h1, k1, rfl⟩
    · rcases List.mem_append.1 hk with hk | hk
      · exact .inl (List.mem_append_left _ hk)
      · rcases k2 k hk with hk | hk
        · exact .inl (List.mem_append_right _ hk)
        · exact .inr hk
    · obtain ⟨n1, n2, n3⟩ := List.nodup_append.1 hF
      refine List.nodup_append.2 ⟨n1, k3 n2 hF' (fun k hk hk' => hd k hk (List.mem_append_right _ hk')), fun a ha b hb e => ?_⟩
      rcases k2 b hb with hb | hb
      · exact n3 a ha b hb e
      · exact hd b hb (e ▸ List.mem_append_left _ ha)

/-- The row of a slice that is not empty. -/
theorem own_form {w : World} {e sz n : Nat} {cells : List T} {v : Value} {F : List Nat} (h : own w (.l e sz n cells) v F) (hn : 0 < n) :
    ∃ g c, v = .slice (some ⟨g, 0, none⟩) n c ∧ g ∈ F ∧ n ≤ c := by
  simp only [own] at h
  rcases h with ⟨vs, G, ho, hr, rfl, _⟩ | ⟨rfl, _⟩
  rotate_left
  · exact absurd hn (Nat.lt_irrefl _)
  obtain ⟨g, c, rfl, hc⟩ := ho.form hn
  exact ⟨g, c, rfl, by simp [Value.ownBlock], by rcases ho.2 with ⟨h, _⟩ | ⟨g', cap', cur, he, _, _, h1, _⟩; · cases h
                                                 · cases he; exact h1⟩
theorem own_slice {w : World} {e sz n : Nat} {cells : List T} {v : Value} {F : List Nat} (h : own w (.l e sz n cells) v F) : ∃ A c, v = .slice A n c ∧ n ≤ c ∧ n ≤ 9223372036854775807 := by
  have h := h.rep
  simp only [rep] at h
  obtain ⟨_, h1, A, c, vs, rfl, hc, _⟩ := h
  exact ⟨A, c, rfl, hc, h1⟩

/-- A store into one cell of an own row. -/
theorem own_store {w : World} {e sz n c g j : Nat} {cells : List T} {F F' : List Nat} {t' : T} {u : Value} (h : own w (.l e sz n cells) (.slice (some ⟨g, 0, none⟩) n c) F) (hj : j < cells.length) (ht : own w t' u F') (hg : g ∉ F') :
    ∃ F2, own (w.setCell ⟨g, j, none⟩ u) (.l e sz n (cells.set j t')) (.slice (some ⟨g, 0, none⟩) n c) F2 ∧ (∀ k ∈ F2, k ∈ F ∨ k ∈ F') ∧ (F.Nodup → F'.Nodup → (∀ k ∈ F', k ∉ F) → F2.Nodup) := by
  simp only [own] at h
  rcases h with ⟨vs, G, ho, hr, rfl, hng⟩ | ⟨_, rfl, _⟩
  rotate_left
  · simp at hj
  have hgG : g ∉ G := hng g rfl
  have hl := owns_length hr
  obtain ⟨F3, k1, k2, k3⟩ := owns_setAt ht j hj hr
  have hgF3 : g ∉ F3 := fun hk => (k2 g hk).elim hgG hg
  refine ⟨g :: F3, ?_, fun k hk => ?_, fun hF hF' hd => ?_⟩
  · simp only [own]
    refine .inl ⟨vs.set j u, F3, ?_, k1.set (p := ⟨g, j, none⟩) hgF3 u, rfl, fun k hk => ?_⟩
    · exact (ho.stored j u).1
    · have : g = k := by simpa [Value.ownBlock] using hk
      exact this ▸ hgF3
  · rcases List.mem_cons.1 hk with rfl | hk
    · exact .inl (by simp [Value.ownBlock])
    · rcases k2 k hk with hk | hk
      · exact .inl (List.mem_append_right _ hk)
      · exact .inr hk
  · have hF0 : G.Nodup := (List.nodup_append.1 hF).2.1
    exact List.nodup_cons.2 ⟨hgF3, k3 hF0 hF' (fun k hk hk' => hd k hk (List.mem_append_right _ hk'))⟩
/-- What an own row's cells hold. -/
theorem own_cell {w : World} {e sz n c g : Nat} {cells : List T} {F : List Nat} (h : own w (.l e sz n cells) (.slice (some ⟨g, 0, none⟩) n c) F) (h0 : 0 < cells.length) : ∃ vs G, owns w cells vs G ∧ F = g :: G ∧ g ∉ G ∧ (∀ j u, vs[j]? = some u → w.cell? ⟨g, j, none⟩ = some u) ∧ (∀ j, w.frozen? ⟨g, j, none⟩ = false) := by
  simp only [own] at h
  rcases h with ⟨vs, G, ho, hr, rfl, hng⟩ | ⟨_, rfl, _⟩
  rotate_left
  · simp at h0
  exact ⟨vs, G, hr, rfl, hng g rfl, fun j u hj => by have := ho.cells (g := g) rfl j u hj; rwa [add_zero'] at this, fun j => ho.frozenAt j⟩

/-! ### make -/
theorem made_flat (z : Array Value) (hz : 0 < z.size) : ∀ n, (madeCells z (n * z.size)).toList = (List.replicate n z.toList).flatten := by
  intro n
  apply List.ext_getElem?
  intro j
  have hlen : ((List.replicate n z.toList).flatten).length = n * z.size := by simp
  by_cases hj : j < n * z.size
  · have e1 : (madeCells z (n * z.size)).toList[j]? = some (z[j % z.size]!) := by simp [madeCells, hj]
    rw [e1]
    have hm : j % z.size < z.size := Nat.mod_lt _ hz
    have key : ∀ (m i : Nat), i < m * z.size → ((List.replicate m z.toList).flatten)[i]? = z.toList[i % z.size]? := by
      intro m
      induction m with
      | zero => intro i hi; simp at hi
      | succ m ih =>
        intro i hi
        rw [List.replicate_succ, List.flatten_cons]
        by_cases hi' : i < z.size
        · rw [List.getElem?_append_left (by simpa using hi'), Nat.mod_eq_of_lt hi']
        · rw [List.getElem?_append_right (by simp; omega), ih _ (by simp only [Array.length_toList]; rw [Nat.add_mul] at hi; omega)]
          congr 1
          simp only [Array.length_toList]
          rw [← Nat.mod_eq_sub_mod (by omega)]
    rw [key n j hj]
    simp [hm]
  · rw [List.getElem?_eq_none (by simp [madeCells]; omega), List.getElem?_eq_none (by rw [hlen]; omega)]
theorem owns_flat {w : World} {ts : List T} {vs : List Value} (h : owns w ts vs []) : ∀ n, owns w ((List.replicate n ts).flatten) ((List.replicate n vs).flatten) []
  | 0 => by simp [owns]
  | n + 1 => by simpa [List.replicate_succ] using owns_append h (owns_flat h n)

theorem World.ownsRow_grown (w : World) (base : Nat) (e : TypeId) (size : Nat) (z : Value) (m : Nat) (us : List Value) (hzs : z.cells.size = size) (hsz : 0 < size) (hl : us.length = m * size) (h63 : m ≤ maxLen) (hbase : base ≤ w.heap.size) :
    (w.drew.alloc (.cells (us.toArray ++ Builtin.zeroCells z.cells (grownCap w m 0 e - m)) e)).ownsRow base e size (.slice (some ⟨w.heap.size, 0, none⟩) m (grownCap w m 0 e)) m us := by
  have hge := grownCap_ge w m 0 e
  have hcm : grownCap w m 0 e ≤ maxLen := grownCap_le_maxLen w m 0 e h63
  refine ⟨hl, .inr ⟨w.heap.size, _, _, rfl, hbase, heap_alloc_new w.drew _, hge, hcm, ?_, ?_⟩⟩
  · simp only [Array.size_append, List.size_toArray, size_zeroCells, hzs, hl, ← Nat.add_mul]
    congr 1
    omega
  · simp only [Array.toList_append]
    rw [← hl]
    exact List.take_left
theorem grow_fits (m b : Nat) (h : m * b ≤ 140737488355328) : Builtin.nextslicecap m 0 * b ≤ 281474976710656 := by
  rcases Nat.eq_zero_or_pos m with h0 | h0
  · subst h0; simp [Builtin.nextslicecap]
  · simp [Builtin.nextslicecap, h0]; omega
section
variable {P : Program} {w : World} {ops : Array Oper} {rest : List Oper} {o : Oper} {a : Act} {Q : Exit → Act → World → Prop}

/-- make([]T, n) -/
theorem mk (hg : o.guard = none) {l c : Operand} {t : TypeId} (hop : o.op = Op.makeSlice t l c) {e sz by_ : Nat} {z : Value} (ht : P.underlying t = some (.slice e))
    (hi : (P.info? e).map (fun i => (i.zero, i.size, i.bytes)) = some (some z, sz, by_)) (hzs : z.cells.size = sz) (hsz : 0 < sz) {kl kc : IntKind} {L C : Int} (n : Nat) (hl : a.eval l = .int kl L) (hc : a.eval c = .int kc C) (hL : L = (n : Int)) (hC : C = (n : Int))
    (hby : by_ * n ≤ 281474976710656) (hm : n ≤ maxLen) {zt : List T} (hz : ∀ W : World, owns W zt z.cells.toList [])
    (hK : ∀ w', own w' (.l e sz n (List.replicate n zt).flatten) (.slice (some ⟨w.heap.size, 0, none⟩) n n) [w.heap.size] → Below w.heap.size w w' → w'.heap.size = w.heap.size + 1 → wpList P ops Q rest (a.put o.dst (.slice (some ⟨w.heap.size, 0, none⟩) n n)) w') :
    wpList P ops Q (o :: rest) a w := by
  obtain ⟨i, h2, h3, h4, h5⟩ := info_parts hi
  subst h4
  subst h5
  refine wpList_plain hg fun K hK' => ?_
  subst hL
  subst hC
  have h63' : (n : Int) ≤ 9223372036854775807 := by
    have h := hm
    simp [maxLen] at h
    omega
  have hb' : (i.bytes : Int) * (n : Int) ≤ 281474976710656 := by
    have h : ((i.bytes * n : Nat) : Int) ≤ 281474976710656 := by omega
    rwa [Int.natCast_mul] at h
  have hr := run_make (P := P) w t e i z ht h2 h3 kl kc n n (by omega) (Int.le_refl _) hb' h63'
  simp only [Int.toNat_natCast] at hr
  unfold Oper.wp
  simp [execOp, hop, hl, hc, hr, Result.andThen]
  refine hK' _ _ (hK _ ?_ ((Below.refl _ _).alloc (Nat.le_refl _) _) (by simp))
  simp only [own]
  refine .inl ⟨(madeCells z.cells (n * i.size)).toList, [], World.ownsRow_lit w _ n (Nat.zero_le _) hm (size_madeCells _ _), ?_, by simp [Value.ownBlock], fun k _ hk => by cases hk⟩
  rw [← hzs, made_flat z.cells (by omega) n]
  exact owns_flat (hz _) n

/-- append: whatever was there before, and the new cells, each in its own blocks. -/
theorem run_app (t ty : TypeId) {e sz by_ : Nat} {z : Value} (ht : P.underlying t = some (.slice e))
    (hi : (P.info? e).map (fun i => (i.zero, i.size, i.bytes)) = some (some z, sz, by_)) (hzs : z.cells.size = sz) (hsz : 0 < sz) {v : Value} {n : Nat} {cells : List T} {F : List Nat} (hown : own w (.l e sz n cells) v F)
    {A : Option Addr} {m c : Nat} {ts : List T} {us : List Value} {F' : List Nat} (hx0 : A = none → c = 0) (hcell : 0 < m → ∃ ad, A = some ad ∧ ∀ j u, us[j]? = some u → w.cell? (ad.add j) = some u) (hl : us.length = m * sz) (hu : owns w ts us F')
    (hd : ∀ k, v.ownBlock = some k → k ∈ F → k ∉ F') (h63 : n + m ≤ maxLen) (hbytes : (n + m) * by_ ≤ 140737488355328) :
    ∃ v' w' F2, (Builtin.append_ #[t, t] ty #[v, .slice A m c]).run P w = .ok v' w' ∧ own w' (.l e sz (n + m) (cells ++ ts)) v' F2 ∧ (∀ k ∈ F2, k ∈ F ∨ k ∈ F' ∨ k = w.heap.size) ∧ (F.Nodup → F'.Nodup → (∀ k ∈ F', k ∉ F) → F2.Nodup) ∧ w.grownBy w' v.ownBlock ∧ ∃ row, w.grownBy w' row ∧ ∀ k, row = some k → k ∈ F := by
  obtain ⟨i, h2, h3, h4, h5⟩ := info_parts hi
  subst h4
  subst h5
  have hF' := hu.lt
  have hF := hown.lt
  simp only [own] at hown
  rcases hown with ⟨vs, G, ho, hr, rfl, hng⟩ | ⟨rfl, rfl, rfl, A0, rfl⟩
  rotate_left
  · obtain ⟨e', hk⟩ : ∃ e', P.underlying t = some (.slice e') := ⟨_, ht⟩
    rcases Nat.eq_zero_or_pos m with hm | hm
    · subst hm
      have hu0 : us = [] := List.eq_nil_of_length_eq_zero (by simpa using hl)
      subst hu0
      have hts : ts = [] := List.eq_nil_of_length_eq_zero (by rw [← owns_length hu]; rfl)
      subst hts
      have hs : Src P i.size t (.slice A 0 c) 0 [] w := by
        cases A with
        | none => exact Src.ofNil w hk c
        | some ad => exact Src.ofSlice w hk ad 0 c [] (by simp) (fun j u hj => by simp at hj) (fun u hu => by cases hu)
      have hr := run_append_nothing (P := P) w t t ty e i ht h2 (some A0) 0 0 (Nat.le_refl _) _ hs
      exact ⟨_, w, [], hr, own_none w e i.size A0, fun k hk => (by cases hk), fun _ _ _ => List.nodup_nil, World.grownBy.refl _ _, none, World.grownBy.refl _ _, fun k hk => by cases hk⟩
    · obtain ⟨ad, rfl, hnews⟩ := hcell hm
      have hs : Src P i.size t (.slice (some ad) m c) m us w := Src.ofSlice w hk ad m c us hl hnews (owns_one hu)
      have hr := run_append_grow_src (P := P) w t t ty e i z ht h2 h3 (some A0) 0 0 [] (by simp [Builtin.firstCells, loadCells, loadCellsFrom]) _ m us hs (by omega) (by simp only [maxLen] at h63; omega) (by
        have h := grow_fits m i.bytes (by simpa using hbytes)
        simpa using h)
      have hw := World.ownsRow_grown w 0 e i.size z m us hzs hsz hl (by simpa using h63) (Nat.zero_le _)
      simp only [Nat.zero_add, List.nil_append] at hr hw ⊢
      have hg : w.grownBy (w.drew.alloc (.cells (us.toArray ++ Builtin.zeroCells z.cells (grownCap w m 0 e - m)) e)) none := ⟨rfl, rfl, rfl, by simp, fun k hk _ => heap_alloc_old w.drew _ hk⟩
      refine ⟨_, _, w.heap.size :: F', hr, ?_, fun k hk => ?_, fun _ hF2 _ => ?_, ⟨hg.os, hg.tape, hg.output, hg.size, fun k hk _ => hg.block k hk (by simp)⟩, none, hg, fun k hk => by cases hk⟩
      · simp only [own]
        refine .inl ⟨us, F', hw, hu.grown hg (fun k hk => by cases hk), rfl, fun k hk hk' => ?_⟩
        have : w.heap.size = k := by simpa [Value.ownBlock] using hk
        exact absurd (hF' k hk') (by omega)
      · rcases List.mem_cons.1 hk with rfl | hk
        · exact .inr (.inr rfl)
        · exact .inr (.inl hk)
      · exact List.nodup_cons.2 ⟨fun hk => absurd (hF' _ hk) (Nat.lt_irrefl _), hF2⟩
  have fin : ∀ v' w', w'.ownsRow 0 e i.size v' (n + m) (vs ++ us) → w.grownBy w' v.ownBlock → (v'.ownBlock = v.ownBlock ∨ v'.ownBlock = some w.heap.size) →
      ∃ F2, own w' (.l e i.size (n + m) (cells ++ ts)) v' F2 ∧ (∀ k ∈ F2, k ∈ v.ownBlock.toList ++ G ∨ k ∈ F' ∨ k = w.heap.size) ∧ ((v.ownBlock.toList ++ G).Nodup → F'.Nodup → (∀ k ∈ F', k ∉ v.ownBlock.toList ++ G) → F2.Nodup) := by
    intro v' w' h1 h2 h3
    have r1 := hr.grown h2 (fun k hk => hng k hk)
    have r2 := hu.grown h2 (fun k hk => hd k hk (by simp [hk]))
    have hmem : ∀ k, v'.ownBlock = some k → k ∉ G ++ F' := by
      intro k hk hk'
      rcases h3 with e1 | e1
      · rw [e1] at hk
        rcases List.mem_append.1 hk' with h | h
        · exact hng k hk h
        · exact hd k hk (by simp [hk]) h
      · rw [e1] at hk
        obtain rfl := Option.some.inj hk
        rcases List.mem_append.1 hk' with h | h
        · exact absurd (hF _ (List.mem_append_right _ h)) (Nat.lt_irrefl _)
        · exact absurd (hF' _ h) (Nat.lt_irrefl _)
    refine ⟨v'.ownBlock.toList ++ (G ++ F'), ?_, fun k hk => ?_, fun q1 q2 q3 => ?_⟩
    · simp only [own]
      exact .inl ⟨vs ++ us, G ++ F', h1, owns_append r1 r2, rfl, hmem⟩
    · rcases List.mem_append.1 hk with hk | hk
      · rcases h3 with e1 | e1
        · rw [e1] at hk; exact .inl (List.mem_append_left _ hk)
        · rw [e1] at hk; exact .inr (.inr (by simpa using hk))
      · rcases List.mem_append.1 hk with hk | hk
        · exact .inl (List.mem_append_right _ hk)
        · exact .inr (.inl hk)
    · have hGF : (G ++ F').Nodup := List.nodup_append.2 ⟨(List.nodup_append.1 q1).2.1, q2, fun a ha b hb e => q3 b hb (e ▸ List.mem_append_right _ ha)⟩
      refine List.nodup_append.2 ⟨by cases v'.ownBlock <;> simp, hGF, fun a ha b hb e => ?_⟩
      have : v'.ownBlock = some a := by cases hv : v'.ownBlock <;> simp_all
      exact hmem a this (e ▸ hb)
  cases A with
  | none =>
    have hm0 : m = 0 := by
      rcases Nat.eq_zero_or_pos m with h | h
      · exact h
      · obtain ⟨ad, h, _⟩ := hcell h
        cases h
    subst hm0
    obtain rfl := hx0 rfl
    have hu0 : us = [] := List.eq_nil_of_length_eq_zero (by simpa using hl)
    subst hu0
    have hr := run_append_owned_none (P := P) w 0 t ty e i i.size ht h2 v n vs ho
    obtain ⟨F2, k1, k2, k3⟩ := fin v w (by simpa using ho) (World.grownBy.refl _ _) (.inl rfl)
    exact ⟨v, w, F2, hr, k1, k2, k3, World.grownBy.refl _ _, none, World.grownBy.refl _ _, fun k hk => by cases hk⟩
  | some ad =>
    have hnews : ∀ j u, us[j]? = some u → w.cell? (ad.add j) = some u := by
      intro j u hj
      rcases Nat.eq_zero_or_pos m with h | h
      · subst h
        have : us = [] := List.eq_nil_of_length_eq_zero (by simpa using hl)
        subst this
        simp at hj
      · obtain ⟨ad', h, hh⟩ := hcell h
        cases h
        exact hh j u hj
    obtain ⟨v', w', hr, k1, k2, _, k4⟩ := run_append_own_at (P := P) w 0 t ty e i z i.size i.bytes ht h2 h3 rfl rfl hzs hsz v n vs ho ad m c us hl hnews (owns_one hu) h63 hbytes (Nat.zero_le _)
    obtain ⟨F2, r1, r2, r3⟩ := fin v' w' k1 k2 k4
    exact ⟨v', w', F2, hr, r1, r2, r3, k2, v.ownBlock, k2, fun k hk => by simp [hk]⟩

theorem app (hgd : o.guard = none) {s x : Operand} {t : TypeId} (ho : o.op = .call { callee := .builtin .append, args := #[s, x], argTypes := #[t, t] }) {e sz by_ : Nat} {z : Value} (ht : P.underlying t = some (.slice e))
    (hi : (P.info? e).map (fun i => (i.zero, i.size, i.bytes)) = some (some z, sz, by_)) (hzs : z.cells.size = sz) (hsz : 0 < sz) {v : Value} (hs : a.eval s = v) {n : Nat} {cells : List T} {F : List Nat} (hown : own w (.l e sz n cells) v F)
    {A : Option Addr} {m c : Nat} (hx : a.eval x = .slice A m c) {ts : List T} {us : List Value} {F' : List Nat} (hx0 : A = none → c = 0) (hcell : 0 < m → ∃ ad, A = some ad ∧ ∀ j u, us[j]? = some u → w.cell? (ad.add j) = some u) (hl : us.length = m * sz) (hu : owns w ts us F')
    (hd : ∀ k, v.ownBlock = some k → k ∉ F') (h63 : n + m ≤ maxLen) (hbytes : (n + m) * by_ ≤ 140737488355328)
    (h : ∀ v' w' F2, own w' (.l e sz (n + m) (cells ++ ts)) v' F2 → (∀ k ∈ F2, k ∈ F ∨ k ∈ F' ∨ k = w.heap.size) → (F.Nodup → F'.Nodup → (∀ k ∈ F', k ∉ F) → F2.Nodup) → w.grownBy w' v.ownBlock → wpList P ops Q rest (a.put o.dst v') w') :
    wpList P ops Q (o :: rest) a w := by
  refine wpList_plain hgd fun K hK => ?_
  obtain ⟨v', w', F2, hr, h2, h3, h4, h5, _⟩ := run_app (P := P) (w := w) t o.type ht hi hzs hsz hown hx0 hcell hl hu (fun k h _ => hd k h) h63 hbytes
  unfold Oper.wp execOp
  simp only [ho, resolve, invoke, builtin, Sem.run_bind, Sem.run_pure, Result.andThen_ok, List.map_toArray, List.map_cons, List.map_nil, hs, hx, hr]
  exact hK _ _ (h v' w' F2 h2 h3 h4 h5)

/-- append of one element, which lies in a block of its own. -/
theorem app1 (hgd : o.guard = none) {s x : Operand} {t : TypeId} (ho : o.op = .call { callee := .builtin .append, args := #[s, x], argTypes := #[t, t] }) {e sz by_ : Nat} {z : Value} (ht : P.underlying t = some (.slice e))
    (hi : (P.info? e).map (fun i => (i.zero, i.size, i.bytes)) = some (some z, sz, by_)) (hzs : z.cells.size = sz) (hsz : 0 < sz) {v : Value} (hs : a.eval s = v) {n : Nat} {cells : List T} {F : List Nat} (hown : own w (.l e sz n cells) v F)
    {B c : Nat} (hx : a.eval x = .slice (some ⟨B, 0, none⟩) 1 c) {ts : List T} {us : List Value} {F' : List Nat} {ty : TypeId} {fr : Nat × Nat} (hcell : w.heap[B]? = some (.cells us.toArray ty fr)) (hu : owns w ts us F') (hl : ts.length = sz)
    (hd : ∀ k, v.ownBlock = some k → k ∉ F') (h63 : n + 1 ≤ maxLen) (hbytes : (n + 1) * by_ ≤ 140737488355328)
    (h : ∀ v' w' F2, own w' (.l e sz (n + 1) (cells ++ ts)) v' F2 → (∀ k ∈ F2, k ∈ F ∨ k ∈ F' ∨ k = w.heap.size) → (F.Nodup → F'.Nodup → (∀ k ∈ F', k ∉ F) → F2.Nodup) → w.grownBy w' v.ownBlock → wpList P ops Q rest (a.put o.dst v') w') :
    wpList P ops Q (o :: rest) a w :=
  app hgd ho ht hi hzs hsz hs hown hx (fun h => by cases h) (fun _ => ⟨_, rfl, fun j u hj => World.news_of_block hcell j u (by simpa using hj)⟩) (by rw [owns_length hu, hl, Nat.one_mul]) hu hd h63 hbytes h
end

/-! ### what a call has made -/
/-- v reads as t, in blocks that are new since w, no block twice. -/
def Made (w w' : World) (t : T) (v : Value) : Prop := ∃ F, own w' t v F ∧ F.Nodup ∧ ∀ k ∈ F, w.heap.size ≤ k
def Mades (w w' : World) (ts : List T) (vs : List Value) : Prop := ∃ F, owns w' ts vs F ∧ F.Nodup ∧ ∀ k ∈ F, w.heap.size ≤ k

def MadeV (w : World) (t : T) (e : Ending) (w' : World) : Prop := ∃ v, e = .returned v ∧ Made w w' t v ∧ Below w.heap.size w w'
def MadeA (w : World) (ts : List T) (e : Ending) (w' : World) : Prop := ∃ vs : List Value, e = .returned (.agg vs.toArray) ∧ Mades w w' ts vs ∧ Below w.heap.size w w'

theorem mem2 {F G : List Nat} {p : Nat → Prop} (h1 : ∀ k ∈ F, p k) (h2 : ∀ k ∈ G, p k) : ∀ k ∈ F ++ G, p k := fun k hk => (List.mem_append.1 hk).elim (h1 k) (h2 k)
theorem nod2 {F G : List Nat} (h1 : F.Nodup) (h2 : G.Nodup) (h : ∀ k ∈ F, k ∉ G) : (F ++ G).Nodup := List.nodup_append.2 ⟨h1, h2, fun a ha b hb e => h a ha (e ▸ hb)⟩
/-! ### several cells stored -/
def setN : List T → Nat → List T → List T
  | l, _, [] => l
  | l, j, t :: ts => setN (l.set j t) (j + 1) ts
def setCells : World → Nat → Nat → List Value → World
  | w, _, _, [] => w
  | w, g, j, u :: us => setCells (w.setCell ⟨g, j, none⟩ u) g (j + 1) us
theorem setN_length : ∀ (ts l : List T) (j : Nat), (setN l j ts).length = l.length
  | [], _, _ => rfl
  | t :: ts, l, j => by rw [setN, setN_length ts]; simp
theorem own_stores {e sz n c g : Nat} : ∀ {ts : List T} {us : List Value} {w : World} {cells : List T} {j : Nat} {F F' : List Nat}, own w (.l e sz n cells) (.slice (some ⟨g, 0, none⟩) n c) F → j + ts.length ≤ cells.length → owns w ts us F' → g ∉ F' →
    ∃ F2, own (setCells w g j us) (.l e sz n (setN cells j ts)) (.slice (some ⟨g, 0, none⟩) n c) F2 ∧ (∀ k ∈ F2, k ∈ F ∨ k ∈ F') ∧ (F.Nodup → F'.Nodup → (∀ k ∈ F', k ∉ F) → F2.Nodup)
  | [], us, w, cells, j, F, F', h, hj, ht, hg => by
    simp only [owns] at ht
    obtain ⟨rfl, rfl⟩ := ht
    exact ⟨F, h, fun k hk => .inl hk, fun h _ _ => h⟩
  | t :: ts, us, w, cells, j, F, F', h, hj, ht, hg => by
    simp only [owns] at ht
    obtain ⟨u, us, F1, F2, rfl, h1, h2, rfl⟩ := ht
    simp only [List.length_cons] at hj
    have hg1 : g ∉ F1 := fun h => hg (List.mem_append_left _ h)
    have hg2 : g ∉ F2 := fun h => hg (List.mem_append_right _ h)
    obtain ⟨G1, k1, k2, k3⟩ := own_store (j := j) h (by omega) h1 hg1
    obtain ⟨G2, r1, r2, r3⟩ := own_stores (j := j + 1) k1 (by simp; omega) (h2.set (p := ⟨g, j, none⟩) hg2 u) hg2
    refine ⟨G2, r1, fun k hk => ?_, fun q1 q2 q3 => ?_⟩
    · rcases r2 k hk with hk | hk
      · rcases k2 k hk with hk | hk
        · exact .inl hk
        · exact .inr (List.mem_append_left _ hk)
      · exact .inr (List.mem_append_right _ hk)
    · obtain ⟨n1, n2, n3⟩ := List.nodup_append.1 q2
      refine r3 (k3 q1 n1 (fun k hk => q3 k (List.mem_append_left _ hk))) n2 (fun k hk hk' => ?_)
      rcases k2 k hk' with hk' | hk'
      · exact q3 k (List.mem_append_right _ hk) hk'
      · exact n3 k hk' k hk rfl
theorem setN_append : ∀ (ts A z B : List T), z.length = ts.length → setN (A ++ (z ++ B)) A.length ts = A ++ (ts ++ B)
  | [], A, z, B, h => by
    have : z = [] := List.eq_nil_of_length_eq_zero (by simpa using h)
    subst this; rfl
  | t :: ts, A, [], B, h => by simp at h
  | t :: ts, A, y :: z, B, h => by
    rw [setN]
    have e1 : (A ++ (y :: z ++ B)).set A.length t = (A ++ [t]) ++ (z ++ B) := by simp
    rw [e1, show A.length + 1 = (A ++ [t]).length by simp, setN_append ts (A ++ [t]) z B (by simpa using h)]
    simp
/-- the cells of an array that is filled from the front -/
def toTo {α : Type} (enc : α → List T) (zt : List T) (xs : List α) (k : Nat) : List T := (xs.take k).flatMap enc ++ (List.replicate (xs.length - k) zt).flatten
theorem toTo_zero {α : Type} (enc : α → List T) (zt : List T) (xs : List α) : toTo enc zt xs 0 = (List.replicate xs.length zt).flatten := by simp [toTo]
theorem toTo_end {α : Type} (enc : α → List T) (zt : List T) (xs : List α) : toTo enc zt xs xs.length = xs.flatMap enc := by simp [toTo]
theorem toTo_length {α : Type} {enc : α → List T} {zt : List T} {sz : Nat} (hf : ∀ x, (enc x).length = sz) (hz : zt.length = sz) (xs : List α) {k : Nat} (hk : k ≤ xs.length) : (toTo enc zt xs k).length = xs.length * sz := by
  unfold toTo
  rw [List.length_append, length_flatMap enc sz hf]
  simp [hz]
  rw [Nat.min_eq_left hk, ← Nat.add_mul]
  congr 1; omega
theorem toTo_succ {α : Type} {enc : α → List T} {zt : List T} {sz : Nat} (hf : ∀ x, (enc x).length = sz) (hz : zt.length = sz) (xs : List α) {k : Nat} (hk : k < xs.length) : setN (toTo enc zt xs k) (k * sz) (enc xs[k]) = toTo enc zt xs (k + 1) := by
  unfold toTo
  have e1 : (List.replicate (xs.length - k) zt).flatten = zt ++ (List.replicate (xs.length - (k + 1)) zt).flatten := by
    rw [show xs.length - k = (xs.length - (k + 1)) + 1 by omega, List.replicate_succ, List.flatten_cons]
  have hl : ((xs.take k).flatMap enc).length = k * sz := by rw [length_flatMap enc sz hf]; simp; rw [Nat.min_eq_left (by omega)]
  rw [e1, ← hl, setN_append _ _ _ _ (by rw [hz, hf]), List.take_succ_eq_append_getElem hk, List.flatMap_append]
  simp
/-- every cell of an own row can be read, and written -/
theorem own_at {w : World} {e sz n c g : Nat} {cells : List T} {F : List Nat} (h : own w (.l e sz n cells) (.slice (some ⟨g, 0, none⟩) n c) F) {j : Nat} (hj : j < cells.length) : ∃ u, w.cell? ⟨g, j, none⟩ = some u ∧ w.frozen? ⟨g, j, none⟩ = false := by
  obtain ⟨vs, G, ho, _, _, hc, hf⟩ := own_cell h (by omega)
  have := owns_length ho
  exact ⟨vs[j], hc j _ (List.getElem?_eq_getElem (by omega)), hf j⟩

end Go.Proofs.Ytmjfkjdfmpileaa.M
