/- Rows whose cells are known as values: append onto such. -/
import Derived.Test.YtmjfkjdfmpileaaAcc
set_option linter.unusedVariables false
set_option linter.unusedSimpArgs false
namespace Go.Proofs.Ytmjfkjdfmpileaa.M
open Go.RowKit
def RowSt (lo : Nat) (w : World) (e sz n : Nat) (vs : List Value) (v : Value) : Prop := w.ownsRow 0 e sz v n vs ∧ ∀ k, v.ownBlock = some k → lo ≤ k
theorem RowSt.slice {lo : Nat} {w : World} {e sz n : Nat} {vs : List Value} {v : Value} (h : RowSt lo w e sz n vs v) : ∃ A c, v = .slice A n c ∧ n ≤ c := by
  rcases h.1.2 with ⟨rfl, h0⟩ | ⟨g, cap, cur, rfl, _, _, h1, _⟩
  · exact ⟨none, 0, by rw [h0], by omega⟩
  · exact ⟨_, cap, rfl, h1⟩
theorem RowSt.nil (lo : Nat) (w : World) (e sz : Nat) : RowSt lo w e sz 0 [] (.slice none 0 0) := ⟨w.ownsRow_nil 0 e sz, fun k hk => by cases hk⟩
theorem RowSt.below {lo : Nat} {w w' : World} {e sz n : Nat} {vs : List Value} {v : Value} (h : RowSt lo w e sz n vs v) (hb : Below w.heap.size w w') : RowSt lo w' e sz n vs v :=
  ⟨ownsRow_move h.1 (fun k hk => hb.block k (h.1.lt k hk).2), h.2⟩
theorem RowSt.set {lo : Nat} {w : World} {e sz n : Nat} {vs : List Value} {v : Value} (h : RowSt lo w e sz n vs v) {p : Addr} (hp : p.block < lo) (u : Value) : RowSt lo (w.setCell p u) e sz n vs v :=
  ⟨ownsRow_move h.1 (fun k hk => Below.heap_setCell w p u k (fun e => by have := h.2 k hk; omega)), h.2⟩
section
variable {Pg : Program} {w wr : World} {lo : Nat}
theorem run_appRow (t ty : TypeId) {e sz by_ : Nat} {z : Value} (ht : Pg.underlying t = some (.slice e))
    (hi : (Pg.info? e).map (fun i => (i.zero, i.size, i.bytes)) = some (some z, sz, by_)) (hzs : z.cells.size = sz) (hsz : 0 < sz) {v : Value} {n : Nat} {vs : List Value}
    (hlo : lo ≤ wr.heap.size) (hown : RowSt lo wr e sz n vs v) (hb : Below wr.heap.size wr w)
    {ad : Addr} {m c : Nat} {us : List Value} (hnews : ∀ j u, us[j]? = some u → w.cell? (ad.add j) = some u) (hl : us.length = m * sz) (h1 : ∀ u ∈ us, u.oneCell' = true)
    (h63 : n + m ≤ maxLen) (hbytes : (n + m) * by_ ≤ 140737488355328) :
    ∃ v' w', (Builtin.append_ #[t, t] ty #[v, .slice (some ad) m c]).run Pg w = .ok v' w' ∧ RowSt lo w' e sz (n + m) (vs ++ us) v' ∧ Far lo wr.heap.size w w' := by
  obtain ⟨i, g2, g3, g4, g5⟩ := info_parts hi
  subst g4
  subst g5
  have hlt := hown.1.lt
  obtain ⟨v', w', hr, k1, k2, _, k4⟩ := run_append_own_at (P := Pg) w 0 t ty e i z i.size i.bytes ht g2 g3 rfl rfl hzs hsz v n vs (hown.below hb).1 ad m c us hl hnews h1 h63 hbytes (Nat.zero_le _)
  have hz := hb.size
  refine ⟨v', w', hr, ⟨k1, fun k hk => ?_⟩, ⟨k2.os, k2.tape, k2.output, k2.size, fun b hb' hl' => k2.block b hb' (fun e => ?_)⟩⟩
  · rcases k4 with h | h
    · rw [h] at hk; exact hown.2 k hk
    · rw [h] at hk; cases hk; omega
  · have a1 := hown.2 b e.symm
    have a2 := (hlt b e.symm).2
    omega
theorem appRow {ops : Array Oper} {rest : List Oper} {o : Oper} {a : Act} {Q : Exit → Act → World → Prop} (hgd : o.guard = none) {s x : Operand} {t : TypeId} (ho : o.op = .call { callee := .builtin .append, args := #[s, x], argTypes := #[t, t] }) {e sz by_ : Nat} {z : Value} (ht : Pg.underlying t = some (.slice e))
    (hi : (Pg.info? e).map (fun i => (i.zero, i.size, i.bytes)) = some (some z, sz, by_)) (hzs : z.cells.size = sz) (hsz : 0 < sz) {v : Value} (hs : a.eval s = v) {n : Nat} {vs : List Value}
    (hlo : lo ≤ wr.heap.size) (hown : RowSt lo wr e sz n vs v) (hb : Below wr.heap.size wr w)
    {ad : Addr} {m c : Nat} (hx : a.eval x = .slice (some ad) m c) {us : List Value} (hnews : ∀ j u, us[j]? = some u → w.cell? (ad.add j) = some u) (hl : us.length = m * sz) (h1 : ∀ u ∈ us, u.oneCell' = true)
    (h63 : n + m ≤ maxLen) (hbytes : (n + m) * by_ ≤ 140737488355328)
    (h : ∀ v' w', RowSt lo w' e sz (n + m) (vs ++ us) v' → Far lo wr.heap.size w w' → wpList Pg ops Q rest (a.put o.dst v') w') :
    wpList Pg ops Q (o :: rest) a w := by
  refine wpList_plain hgd fun K hK => ?_
  obtain ⟨v', w', hr, h2, h3⟩ := run_appRow (Pg := Pg) (w := w) (wr := wr) (c := c) t o.type ht hi hzs hsz hlo hown hb hnews hl h1 h63 hbytes
  unfold Oper.wp execOp
  simp only [ho, resolve, invoke, builtin, Sem.run_bind, Sem.run_pure, Result.andThen_ok, List.map_toArray, List.map_cons, List.map_nil, hs, hx, hr]
  exact hK _ _ (h v' w' h2 h3)
theorem step_appRow {ops : Array Oper} {o : Oper} {a : Act} {K : Act → World → Prop} {Q : Exit → Act → World → Prop} {E : Prop} (hgd : o.guard = none) {s x : Operand} {t : TypeId} (ho : o.op = .call { callee := .builtin .append, args := #[s, x], argTypes := #[t, t] }) {e sz by_ : Nat} {z : Value} (ht : Pg.underlying t = some (.slice e))
    (hi : (Pg.info? e).map (fun i => (i.zero, i.size, i.bytes)) = some (some z, sz, by_)) (hzs : z.cells.size = sz) (hsz : 0 < sz) {v : Value} (hs : a.eval s = v) {n : Nat} {vs : List Value}
    (hlo : lo ≤ wr.heap.size) (hown : RowSt lo wr e sz n vs v) (hb : Below wr.heap.size wr w)
    {ad : Addr} {m c : Nat} (hx : a.eval x = .slice (some ad) m c) {us : List Value} (hnews : ∀ j u, us[j]? = some u → w.cell? (ad.add j) = some u) (hl : us.length = m * sz) (h1 : ∀ u ∈ us, u.oneCell' = true)
    (h63 : n + m ≤ maxLen) (hbytes : (n + m) * by_ ≤ 140737488355328)
    (h : ∀ v' w', RowSt lo w' e sz (n + m) (vs ++ us) v' → Far lo wr.heap.size w w' → K (a.put o.dst v') w') :
    if Region.wanted o (yielded ops a.tmps) = true then Oper.wp Pg o a w K Q else E := by
  have hw : Region.wanted o (yielded ops a.tmps) = true := by simp [Region.wanted, hgd]
  rw [if_pos hw]
  obtain ⟨v', w', hr, h2, h3⟩ := run_appRow (Pg := Pg) (w := w) (wr := wr) (c := c) t o.type ht hi hzs hsz hlo hown hb hnews hl h1 h63 hbytes
  unfold Oper.wp execOp
  simp only [ho, resolve, invoke, builtin, Sem.run_bind, Sem.run_pure, Result.andThen_ok, List.map_toArray, List.map_cons, List.map_nil, hs, hx, hr]
  exact h v' w' h2 h3
end
end Go.Proofs.Ytmjfkjdfmpileaa.M
