/- Lists in blocks of their own that meet a condition; append onto such in a drawn region. -/
import Derived.Test.YtmjfkjdfmpileaaAcc
set_option linter.unusedVariables false
set_option linter.unusedSimpArgs false
namespace Go.Proofs.Ytmjfkjdfmpileaa.M
open Go.RowKit
def LieP (p : Nat → Prop) (w : World) (t : T) (v : Value) : Prop := ∃ F, own w t v F ∧ F.Nodup ∧ ∀ b ∈ F, p b
/-- nothing has turned but blocks of which p holds, and new ones -/
structure FrP (p : Nat → Prop) (w w' : World) : Prop where
  os : w'.os = w.os
  tape : w'.tape = w.tape
  output : w'.output = w.output
  size : w.heap.size ≤ w'.heap.size
  block : ∀ b, b < w.heap.size → ¬p b → w'.heap[b]? = w.heap[b]?
section
variable {p : Nat → Prop} {w w' : World} {t : T} {v : Value}
theorem FrP.cell (h : FrP p w w') {b o : Nat} (hb : b < w.heap.size) (hn : ¬p b) : w'.cell? ⟨b, o, none⟩ = w.cell? ⟨b, o, none⟩ := World.cell?_of_block (h.block b hb hn)
theorem FrP.frozen (h : FrP p w w') {b o : Nat} (hb : b < w.heap.size) (hn : ¬p b) : w'.frozen? ⟨b, o, none⟩ = w.frozen? ⟨b, o, none⟩ := World.frozen?_of_block (h.block b hb hn)
theorem FrP.below (h : FrP p w w') {B : Nat} (hB : B ≤ w.heap.size) (hp : ∀ b, p b → B ≤ b) : Below B w w' := ⟨h.os, h.tape, h.output, h.size, fun k hk => h.block k (by omega) (fun h => by have := hp k h; omega)⟩
theorem LieP.mono {q : Nat → Prop} (h : LieP p w t v) (hpq : ∀ b, b < w.heap.size → p b → q b) : LieP q w t v := by obtain ⟨F, a, b, c⟩ := h; exact ⟨F, a, b, fun k hk => hpq k (a.lt k hk) (c k hk)⟩
theorem LieP.below (h : LieP p w t v) (hb : Below w.heap.size w w') : LieP p w' t v := by obtain ⟨F, h1, h2, h3⟩ := h; exact ⟨F, h1.below hb, h2, h3⟩
theorem LieP.set (h : LieP p w t v) {a : Addr} (ha : ¬p a.block) (u : Value) : LieP p (w.setCell a u) t v := by
  obtain ⟨F, h1, h2, h3⟩ := h; exact ⟨F, h1.set (fun hk => ha (h3 _ hk)) u, h2, h3⟩
theorem LieP.slice {e sz n : Nat} {cells : List T} (h : LieP p w (.l e sz n cells) v) : ∃ A c, v = .slice A n c ∧ n ≤ c ∧ n ≤ 9223372036854775807 := by obtain ⟨F, h1, _⟩ := h; exact own_slice h1
theorem LieP.nil (p : Nat → Prop) (w : World) (e sz : Nat) : LieP p w (.l e sz 0 []) (.slice none 0 0) := ⟨[], own_nil _ _ _, List.nodup_nil, fun k hk => by cases hk⟩
theorem LieP.lie {lo : Nat} (h : LieP p w t v) (hp : ∀ b, p b → lo ≤ b) : Lie lo w t v := by obtain ⟨F, a, b, c⟩ := h; exact ⟨F, a, b, fun k hk => hp k (c k hk)⟩
end
section
variable {Pg : Program} {w wr : World} {p : Nat → Prop} {m0 : Nat}
/-- the new elements lie from m0 on -/
theorem step_appP {ops : Array Oper} {o : Oper} {a : Act} {K : Act → World → Prop} {Q : Exit → Act → World → Prop} {E : Prop} (hgd : o.guard = none) {s x : Operand} {t : TypeId} (ho : o.op = .call { callee := .builtin .append, args := #[s, x], argTypes := #[t, t] }) {e sz by_ : Nat} {z : Value} (ht : Pg.underlying t = some (.slice e))
    (hi : (Pg.info? e).map (fun i => (i.zero, i.size, i.bytes)) = some (some z, sz, by_)) (hzs : z.cells.size = sz) (hsz : 0 < sz) {v : Value} (hs : a.eval s = v) {n : Nat} {cells : List T}
    (hown : LieP p wr (.l e sz n cells) v) (hb : Below wr.heap.size wr w) (hm0 : wr.heap.size ≤ m0)
    {ad : Addr} {m c : Nat} (hx : a.eval x = .slice (some ad) m c) {ts : List T} {us : List Value} (hcell : ∀ j u, us[j]? = some u → w.cell? (ad.add j) = some u) (hl : us.length = m * sz) (hu : Lies m0 w ts us)
    (h63 : n + m ≤ maxLen) (hbytes : (n + m) * by_ ≤ 140737488355328)
    (h : ∀ v' w', LieP (fun b => (p b ∧ b < wr.heap.size) ∨ m0 ≤ b ∨ b = w.heap.size) w' (.l e sz (n + m) (cells ++ ts)) v' → FrP (fun b => p b ∧ b < wr.heap.size) w w' → K (a.put o.dst v') w') :
    if Region.wanted o (yielded ops a.tmps) = true then Oper.wp Pg o a w K Q else E := by
  have hw : Region.wanted o (yielded ops a.tmps) = true := by simp [Region.wanted, hgd]
  rw [if_pos hw]
  obtain ⟨F, o1, n1, l1⟩ := hown
  obtain ⟨F', o2, n2, l2⟩ := hu
  have hlt := o1.lt
  obtain ⟨v', w', F2, hr, k1, k2, k3, _, row, k4, k5⟩ := run_app (P := Pg) (w := w) t o.type ht hi hzs hsz (o1.below hb) (A := some ad) (c := c) (fun h => by cases h) (fun _ => ⟨ad, rfl, hcell⟩) hl o2 (fun k _ hk hk' => by have := l2 k hk'; have := hlt k hk; omega) h63 hbytes
  unfold Oper.wp execOp
  simp only [ho, resolve, invoke, builtin, Sem.run_bind, Sem.run_pure, Result.andThen_ok, List.map_toArray, List.map_cons, List.map_nil, hs, hx, hr]
  refine h v' w' ⟨F2, k1, k3 n1 n2 (fun k hk hk' => by have := l2 k hk; have := hlt k hk'; omega), fun k hk => ?_⟩ ⟨k4.os, k4.tape, k4.output, k4.size, fun b hb hn => k4.block b hb (fun e => hn ⟨l1 b (k5 b e.symm), hlt b (k5 b e.symm)⟩)⟩
  rcases k2 k hk with h | h | h
  · exact .inl ⟨l1 k h, hlt k h⟩
  · exact .inr (.inl (l2 k h))
  · exact .inr (.inr h)
end
end Go.Proofs.Ytmjfkjdfmpileaa.M
