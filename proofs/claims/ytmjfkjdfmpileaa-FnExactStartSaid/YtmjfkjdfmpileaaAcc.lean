/- Lists that a walk makes bit by bit: 'Lie lo w t v': v reads as t in blocks of its own from lo on; append onto such. -/
import Derived.Test.YtmjfkjdfmpileaaCln
import Derived.Test.YtmjfkjdfmpileaaRo
set_option linter.unusedVariables false
set_option linter.unusedSimpArgs false
namespace Go.Proofs.Ytmjfkjdfmpileaa.M
open Go.RowKit
def Lie (lo : Nat) (w : World) (t : T) (v : Value) : Prop := ∃ F, own w t v F ∧ F.Nodup ∧ ∀ k ∈ F, lo ≤ k
def Lies (lo : Nat) (w : World) (ts : List T) (vs : List Value) : Prop := ∃ F, owns w ts vs F ∧ F.Nodup ∧ ∀ k ∈ F, lo ≤ k
section
variable {lo : Nat} {w w' : World} {t : T} {ts us : List T} {v : Value} {vs xs : List Value}
theorem Made.lie (h : Made w w' t v) : Lie w.heap.size w' t v := h
theorem Mades.lies (h : Mades w w' ts vs) : Lies w.heap.size w' ts vs := h
theorem Lie.made (h : Lie w.heap.size w' t v) : Made w w' t v := h
theorem Lies.mades (h : Lies w.heap.size w' ts vs) : Mades w w' ts vs := h
theorem Lie.mono (h : Lie lo w t v) {l : Nat} (hl : l ≤ lo) : Lie l w t v := by obtain ⟨F, h1, h2, h3⟩ := h; exact ⟨F, h1, h2, fun k hk => Nat.le_trans hl (h3 k hk)⟩
theorem Lies.mono (h : Lies lo w ts vs) {l : Nat} (hl : l ≤ lo) : Lies l w ts vs := by obtain ⟨F, h1, h2, h3⟩ := h; exact ⟨F, h1, h2, fun k hk => Nat.le_trans hl (h3 k hk)⟩
theorem Lie.rep (h : Lie lo w t v) : M.rep w t v := by obtain ⟨F, h1, _⟩ := h; exact h1.rep
theorem Lies.reps (h : Lies lo w ts vs) : M.reps w ts vs := by obtain ⟨F, h1, _⟩ := h; exact h1.rep
theorem Lie.below (h : Lie lo w t v) (hb : Below w.heap.size w w') : Lie lo w' t v := by obtain ⟨F, h1, h2, h3⟩ := h; exact ⟨F, h1.below hb, h2, h3⟩
theorem Lies.below (h : Lies lo w ts vs) (hb : Below w.heap.size w w') : Lies lo w' ts vs := by obtain ⟨F, h1, h2, h3⟩ := h; exact ⟨F, h1.below hb, h2, h3⟩
theorem Lie.set (h : Lie lo w t v) {p : Addr} (hp : p.block < lo) (u : Value) : Lie lo (w.setCell p u) t v := by
  obtain ⟨F, h1, h2, h3⟩ := h; exact ⟨F, h1.set (fun hk => by have := h3 _ hk; omega) u, h2, h3⟩
theorem Lies.set (h : Lies lo w ts vs) {p : Addr} (hp : p.block < lo) (u : Value) : Lies lo (w.setCell p u) ts vs := by
  obtain ⟨F, h1, h2, h3⟩ := h; exact ⟨F, h1.set (fun hk => by have := h3 _ hk; omega) u, h2, h3⟩
theorem Lie.slice {e sz n : Nat} {cells : List T} (h : Lie lo w (.l e sz n cells) v) : ∃ A c, v = .slice A n c ∧ n ≤ c ∧ n ≤ 9223372036854775807 := by obtain ⟨F, h1, _⟩ := h; exact own_slice h1
theorem Lie.nil (lo : Nat) (w : World) (e sz : Nat) : Lie lo w (.l e sz 0 []) (.slice none 0 0) := ⟨[], own_nil _ _ _, List.nodup_nil, fun k hk => by cases hk⟩
theorem Lies.flat {W : World} (h : M.reps W ts vs) (hf : ∀ t ∈ ts, t.flat = true) (lo : Nat) (hb : Below W.heap.size W w) : Lies lo w ts vs := ⟨[], owns_flat_of_reps (h.below hb) hf, List.nodup_nil, fun k hk => by cases hk⟩
theorem below_lo {W : World} {lo : Nat} (hlo : lo ≤ W.heap.size) {row : Option Nat} (hg : W.grownBy w' row) (hr : ∀ k, row = some k → lo ≤ k) : Below lo W w' :=
  ⟨hg.os, hg.tape, hg.output, hg.size, fun k hk => hg.block k (Nat.lt_of_lt_of_le hk hlo) (fun e => absurd (hr k e.symm) (by omega))⟩
end
theorem heap_new_set (w : World) (p : Addr) (u : Value) (o : Obj) : ((w.setCell p u).alloc o).heap[w.heap.size]? = some o := by simpa using heap_alloc_new (w.setCell p u) o
/-- the first elements -/
def tkTo {α : Type} (xs : List α) (k : Nat) : List α := xs.take k
theorem tkTo_zero {α : Type} (xs : List α) : tkTo xs 0 = [] := by simp [tkTo]
theorem tkTo_succ {α : Type} {xs : List α} {k : Nat} (h : k < xs.length) : tkTo xs (k + 1) = tkTo xs k ++ [xs[k]] := List.take_succ_eq_append_getElem h
theorem tkTo_end {α : Type} (xs : List α) : tkTo xs xs.length = xs := by simp [tkTo]
theorem tkTo_len {α : Type} (xs : List α) (k : Nat) : (tkTo xs k).length ≤ k := List.length_take_le _ _
/-- nothing has turned but blocks from lo to hi, and new ones -/
structure Far (lo hi : Nat) (w w' : World) : Prop where
  os : w'.os = w.os
  tape : w'.tape = w.tape
  output : w'.output = w.output
  size : w.heap.size ≤ w'.heap.size
  block : ∀ b, b < w.heap.size → (b < lo ∨ hi ≤ b) → w'.heap[b]? = w.heap[b]?
theorem Far.cell {lo hi : Nat} {w w' : World} (h : Far lo hi w w') {b o : Nat} (hb : b < w.heap.size) (hl : b < lo ∨ hi ≤ b) : w'.cell? ⟨b, o, none⟩ = w.cell? ⟨b, o, none⟩ := World.cell?_of_block (h.block b hb hl)
theorem Far.frozen {lo hi : Nat} {w w' : World} (h : Far lo hi w w') {b o : Nat} (hb : b < w.heap.size) (hl : b < lo ∨ hi ≤ b) : w'.frozen? ⟨b, o, none⟩ = w.frozen? ⟨b, o, none⟩ := World.frozen?_of_block (h.block b hb hl)
theorem Far.below {lo hi : Nat} {w w' : World} (h : Far lo hi w w') (hl : lo ≤ w.heap.size) : Below lo w w' := ⟨h.os, h.tape, h.output, h.size, fun k hk => h.block k (by omega) (.inl hk)⟩
theorem Far.trans {B lo hi : Nat} {w W w' : World} (hb : Below B w W) (h : Far lo hi W w') (hB : B ≤ lo) (hW : B ≤ W.heap.size) : Below B w w' := ⟨h.os.trans hb.os, h.tape.trans hb.tape, h.output.trans hb.output, Nat.le_trans hb.size h.size, fun k hk => (h.block k (by omega) (.inl (by omega))).trans (hb.block k hk)⟩
section
variable {Pg : Program} {w wr : World} {lo : Nat}
theorem run_appL (t ty : TypeId) {e sz by_ : Nat} {z : Value} (ht : Pg.underlying t = some (.slice e))
    (hi : (Pg.info? e).map (fun i => (i.zero, i.size, i.bytes)) = some (some z, sz, by_)) (hzs : z.cells.size = sz) (hsz : 0 < sz) {v : Value} {n : Nat} {cells : List T}
    (hlo : lo ≤ wr.heap.size) (hown : Lie lo wr (.l e sz n cells) v) (hb : Below wr.heap.size wr w)
    {A : Option Addr} {m c : Nat} {ts : List T} {us : List Value} (hcell : 0 < m → ∃ ad, A = some ad ∧ ∀ j u, us[j]? = some u → w.cell? (ad.add j) = some u) (hl : us.length = m * sz) (hu : Lies wr.heap.size w ts us)
    (h63 : n + m ≤ maxLen) (hbytes : (n + m) * by_ ≤ 140737488355328) :
    ∃ v' w', (Builtin.append_ #[t, t] ty #[v, .slice A m c]).run Pg w = .ok v' w' ∧ Lie lo w' (.l e sz (n + m) (cells ++ ts)) v' ∧ Far lo wr.heap.size w w' := by
  obtain ⟨i0, g2, g3, g4, g5⟩ := info_parts hi
  cases A with
  | none =>
    have hm0 : m = 0 := by
      rcases Nat.eq_zero_or_pos m with h | h
      · exact h
      · obtain ⟨ad, h, _⟩ := hcell h
        cases h
    subst hm0
    have hu0 : us = [] := List.eq_nil_of_length_eq_zero (by simpa using hl)
    subst hu0
    have hts : ts = [] := by
      obtain ⟨F', o2, _, _⟩ := hu
      exact List.eq_nil_of_length_eq_zero (by rw [← owns_length o2]; rfl)
    subst hts
    obtain ⟨A1, c1, rfl, hc1, _⟩ := hown.slice
    exact ⟨_, w, run_append_nothing (P := Pg) w t t ty e i0 ht g2 A1 n c1 hc1 _ (Src.ofNil w ht c), by simpa using hown.below hb, ⟨rfl, rfl, rfl, Nat.le_refl _, fun _ _ _ => rfl⟩⟩
  | some ad0 =>
  have hx0 : (some ad0 : Option Addr) = none → c = 0 := fun h => by cases h
  obtain ⟨F, o1, n1, l1⟩ := hown
  obtain ⟨F', o2, n2, l2⟩ := hu
  have hlt := o1.lt
  obtain ⟨v', w', F2, hr, k1, k2, k3, _, row, k4, k5⟩ := run_app (P := Pg) (w := w) t ty ht hi hzs hsz (o1.below hb) hx0 hcell hl o2 (fun k _ hk hk' => by have := l2 k hk'; have := hlt k hk; omega) h63 hbytes
  refine ⟨v', w', hr, ⟨F2, k1, k3 n1 n2 (fun k hk hk' => by have := l2 k hk; have := hlt k hk'; omega), fun k hk => ?_⟩, ⟨k4.os, k4.tape, k4.output, k4.size, fun b hb hl => k4.block b hb (fun e => by have h1 := l1 b (k5 b e.symm); have h2 := hlt b (k5 b e.symm); omega)⟩⟩
  rcases k2 k hk with h | h | h
  · exact l1 k h
  · exact Nat.le_trans hlo (l2 k h)
  · rw [h]; exact Nat.le_trans hlo hb.size
/-- append in a plain region -/
theorem appL {ops : Array Oper} {rest : List Oper} {o : Oper} {a : Act} {Q : Exit → Act → World → Prop} (hgd : o.guard = none) {s x : Operand} {t : TypeId} (ho : o.op = .call { callee := .builtin .append, args := #[s, x], argTypes := #[t, t] }) {e sz by_ : Nat} {z : Value} (ht : Pg.underlying t = some (.slice e))
    (hi : (Pg.info? e).map (fun i => (i.zero, i.size, i.bytes)) = some (some z, sz, by_)) (hzs : z.cells.size = sz) (hsz : 0 < sz) {v : Value} (hs : a.eval s = v) {n : Nat} {cells : List T}
    (hlo : lo ≤ wr.heap.size) (hown : Lie lo wr (.l e sz n cells) v) (hb : Below wr.heap.size wr w)
    {A : Option Addr} {m c : Nat} (hx : a.eval x = .slice A m c) {ts : List T} {us : List Value} (hcell : 0 < m → ∃ ad, A = some ad ∧ ∀ j u, us[j]? = some u → w.cell? (ad.add j) = some u) (hl : us.length = m * sz) (hu : Lies wr.heap.size w ts us)
    (h63 : n + m ≤ maxLen) (hbytes : (n + m) * by_ ≤ 140737488355328)
    (h : ∀ v' w', Lie lo w' (.l e sz (n + m) (cells ++ ts)) v' → Far lo wr.heap.size w w' → wpList Pg ops Q rest (a.put o.dst v') w') :
    wpList Pg ops Q (o :: rest) a w := by
  refine wpList_plain hgd fun K hK => ?_
  obtain ⟨v', w', hr, h2, h3⟩ := run_appL (Pg := Pg) (w := w) (wr := wr) (c := c) t o.type ht hi hzs hsz hlo hown hb hcell hl hu h63 hbytes
  unfold Oper.wp execOp
  simp only [ho, resolve, invoke, builtin, Sem.run_bind, Sem.run_pure, Result.andThen_ok, List.map_toArray, List.map_cons, List.map_nil, hs, hx, hr]
  exact hK _ _ (h v' w' h2 h3)
/-- append onto an empty list -/
theorem appE {ops : Array Oper} {rest : List Oper} {o : Oper} {a : Act} {Q : Exit → Act → World → Prop} (hgd : o.guard = none) {s x : Operand} {t : TypeId} (ho : o.op = .call { callee := .builtin .append, args := #[s, x], argTypes := #[t, t] }) {e sz by_ : Nat} {z : Value} (ht : Pg.underlying t = some (.slice e))
    (hi : (Pg.info? e).map (fun i => (i.zero, i.size, i.bytes)) = some (some z, sz, by_)) (hzs : z.cells.size = sz) (hsz : 0 < sz) {v : Value} (hs : a.eval s = v) 
    (hlo : lo ≤ wr.heap.size) (hown : Lie lo wr (.l e sz 0 []) v) (hb : Below wr.heap.size wr w)
    {A : Option Addr} {m c : Nat} (hx : a.eval x = .slice A m c) {ts : List T} {us : List Value} (hcell : 0 < m → ∃ ad, A = some ad ∧ ∀ j u, us[j]? = some u → w.cell? (ad.add j) = some u) (hl : us.length = m * sz) (hu : Lies wr.heap.size w ts us)
    (h63 : m ≤ maxLen) (hbytes : m * by_ ≤ 140737488355328)
    (h : ∀ v' w', Lie lo w' (.l e sz m ts) v' → Far lo wr.heap.size w w' → wpList Pg ops Q rest (a.put o.dst v') w') :
    wpList Pg ops Q (o :: rest) a w := by
  refine appL hgd ho ht hi hzs hsz hs hlo hown hb hx hcell hl hu (by simpa using h63) (by simpa using hbytes) fun v' w' h1 h2 => h v' w' ?_ h2
  simpa using h1
/-- append as a step of a region that draws its order -/
theorem step_appL {ops : Array Oper} {o : Oper} {a : Act} {K : Act → World → Prop} {Q : Exit → Act → World → Prop} {E : Prop} (hgd : o.guard = none) {s x : Operand} {t : TypeId} (ho : o.op = .call { callee := .builtin .append, args := #[s, x], argTypes := #[t, t] }) {e sz by_ : Nat} {z : Value} (ht : Pg.underlying t = some (.slice e))
    (hi : (Pg.info? e).map (fun i => (i.zero, i.size, i.bytes)) = some (some z, sz, by_)) (hzs : z.cells.size = sz) (hsz : 0 < sz) {v : Value} (hs : a.eval s = v) {n : Nat} {cells : List T}
    (hlo : lo ≤ wr.heap.size) (hown : Lie lo wr (.l e sz n cells) v) (hb : Below wr.heap.size wr w)
    {A : Option Addr} {m c : Nat} (hx : a.eval x = .slice A m c) {ts : List T} {us : List Value} (hcell : 0 < m → ∃ ad, A = some ad ∧ ∀ j u, us[j]? = some u → w.cell? (ad.add j) = some u) (hl : us.length = m * sz) (hu : Lies wr.heap.size w ts us)
    (h63 : n + m ≤ maxLen) (hbytes : (n + m) * by_ ≤ 140737488355328)
    (h : ∀ v' w', Lie lo w' (.l e sz (n + m) (cells ++ ts)) v' → Far lo wr.heap.size w w' → K (a.put o.dst v') w') :
    if Region.wanted o (yielded ops a.tmps) = true then Oper.wp Pg o a w K Q else E := by
  have hw : Region.wanted o (yielded ops a.tmps) = true := by simp [Region.wanted, hgd]
  rw [if_pos hw]
  obtain ⟨v', w', hr, h2, h3⟩ := run_appL (Pg := Pg) (w := w) (wr := wr) (c := c) t o.type ht hi hzs hsz hlo hown hb hcell hl hu h63 hbytes
  unfold Oper.wp execOp
  simp only [ho, resolve, invoke, builtin, Sem.run_bind, Sem.run_pure, Result.andThen_ok, List.map_toArray, List.map_cons, List.map_nil, hs, hx, hr]
  exact h v' w' h2 h3
/-- the one element that 'append(xs, e)' lays into a block of its own first -/
theorem one_cells {w : World} {B : Nat} {cs : Array Value} {t : TypeId} {fr : Nat × Nat} (hb : w.heap[B]? = some (.cells cs t fr)) : 0 < 1 → ∃ ad, (some ⟨B, 0, none⟩ : Option Addr) = some ad ∧ ∀ j u, cs.toList[j]? = some u → w.cell? (ad.add j) = some u := fun _ => ⟨_, rfl, World.news_of_block hb⟩
end
end Go.Proofs.Ytmjfkjdfmpileaa.M
