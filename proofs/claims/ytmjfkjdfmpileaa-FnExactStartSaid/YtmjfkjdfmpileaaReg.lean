/- A region that draws its order and whose last store may hit a cell that it loads: loads are taken first as long as that store has not come up. -/
import Derived.OrdersHeld
import Derived.Deep.RegionHeld3
set_option linter.unusedVariables false
namespace Go.Proofs.Ytmjfkjdfmpileaa.M
open Go
section
variable {Pg : Program} {ops : Array Oper} {Q : Exit → Act → World → Prop} {md : Region.Mode} {S : World → Prop} {last : Nat}
/-- as 'wpAny', and behind each operation but the one of number 'last' the world meets S -/
def wpG (Pg : Program) (md : Region.Mode) (ops : Array Oper) (Q : Exit → Act → World → Prop) (last : Nat) (S : World → Prop) : Nat → Array Bool → Act → World → Prop
  | 0, L, a, w => Region.ready md ops L = [] ∧ Q .normal a w
  | n + 1, L, a, w => (Region.ready md ops L = [] → Q .normal a w) ∧ ∀ j ∈ Region.ready md ops L, wpOp Pg ops Q j (fun b u => (j ≠ last → S u) ∧ wpG Pg md ops Q last S n (L.setIfInBounds j true) b u) a w
theorem wpG_any : ∀ (n : Nat) (L : Array Bool) (a : Act) (w : World), wpG Pg md ops Q last S n L a w → wpAny Pg md ops Q n L a w
  | 0, _, _, _, h => h
  | n + 1, L, a, w, h => ⟨h.1, fun j hj => wpOp_mono (fun b u k => wpG_any n _ b u k.2) (h.2 j hj)⟩
theorem not_ready {i j : Nat} {oj : Oper} {L : Array Bool} (hoj : ops[j]? = some oj) (hw : oj.after.any (fun e => Region.binds md e && e.on == i) = true) (hi : i ∈ Region.ready md ops L) : j ∉ Region.ready md ops L := by
  intro hj
  obtain ⟨_, o, ho, hall⟩ := mem_ready.1 hj
  rw [hoj] at ho
  cases ho
  obtain ⟨e, he, hb⟩ := Array.any_eq_true'.1 hw
  simp only [Bool.and_eq_true, beq_iff_eq] at hb
  have h1 := hall e he hb.1
  have h0 := (mem_ready.1 hi).1
  rw [hb.2] at h1
  rcases Nat.lt_or_ge i L.size with h | h
  · simp [h] at h0 h1; rw [h0] at h1; cases h1
  · simp [Array.getElem?_eq_none h] at h1
theorem wpG_first {i : Nat} {oi ol : Oper} {v : Value} (hi : ops[i]? = some oi) (hsel : ∀ (j : Nat) (o : Oper) cs b, ops[j]? = some o → o.op ≠ .select cs b)
    (hQ : ∀ c a w, Q (.panic c) (a.put oi.dst v) w → Q (.panic c) a w) (hol : ops[last]? = some ol) (hlast : ol.after.any (fun e => Region.binds md e && e.on == i) = true) :
    ∀ (n : Nat) (L : Array Bool) (a : Act) (w : World),
      (∀ j oj, ops[j]? = some oj → j ≠ i → L.getD j true = false → (∀ e ∈ oj.after, Region.binds md e = true → e.on ≠ i) → oi.apart ops oj = true) →
      i ∈ Region.ready md ops L → YieldsIf Pg ops S oi v a → S w → (i ≠ last → S w) →
      wpG Pg md ops Q last S n (L.setIfInBounds i true) (a.put oi.dst v) w → wpG Pg md ops Q last S (n + 1) L a w := by
  intro n
  induction n with
  | zero =>
    intro L a w _ hr hy hS hS' H
    refine ⟨fun h => (by rw [h] at hr; cases hr), fun j hj => ?_⟩
    by_cases e : j = i
    · subst e; exact hy.wpOp hi hS ⟨hS', H⟩
    · have := ready_mono hj e
      rw [H.1] at this; cases this
  | succ n ih =>
    intro L a w hap hr hy hS hS' H
    refine ⟨fun h => (by rw [h] at hr; cases hr), fun j hj => ?_⟩
    by_cases e : j = i
    · subst e; exact hy.wpOp hi hS ⟨hS', H⟩
    · have hjl : j ≠ last := fun e2 => not_ready hol hlast hr (e2 ▸ hj)
      obtain ⟨hun, oj, hoj, hall⟩ := mem_ready.1 hj
      have hno : ∀ x ∈ oj.after, Region.binds md x = true → x.on ≠ i := fun x hx hb heq => by
        refine not_ready hoj (i := i) ?_ hr hj
        exact Array.any_eq_true'.2 ⟨x, hx, by simp [hb, heq]⟩
      have h2 := wpOp_putIf hoj (hap j oj hoj e hun hno) (fun cs b => hsel i oi cs b hi) (fun cs b => hsel j oj cs b hoj) hQ hy (H.2 j (ready_mono hj e))
      refine wpOp_mono (fun b u k => ⟨k.2.1, ih (L.setIfInBounds j true) b u ?_ (ready_mono hr (Ne.symm e)) k.1 (k.2.1 hjl) (fun _ => k.2.1 hjl) ?_⟩) h2
      · intro m om hm hmi hum hnm
        refine hap m om hm hmi ?_ hnm
        by_cases hjm : j = m
        · subst hjm; exact hun
        · rwa [getD_set_ne true hjm] at hum
      · rw [Array.setIfInBounds_comm _ _ e]; exact k.2.2
theorem wpG_take {i : Nat} {oi ol : Oper} {v : Value} {n : Nat} {L : Array Bool} {a : Act} {w : World} (hi : ops[i]? = some oi) (hol : ops[last]? = some ol)
    (hlast : ol.after.any (fun e => Region.binds md e && e.on == i) = true) (hs : Region.noSelect ops = true) (hf : Region.free md ops L i = true) (hr : (Region.ready md ops L).contains i = true)
    (hQ : ∀ c a w, Q (.panic c) (a.put oi.dst v) w → Q (.panic c) a w) (hy : YieldsIf Pg ops S oi v a) (hS : S w)
    (h : wpG Pg md ops Q last S n (L.setIfInBounds i true) (a.put oi.dst v) w) : wpG Pg md ops Q last S (n + 1) L a w :=
  wpG_first hi (Region.noSelect_spec hs) hQ hol hlast n L a w (Region.free_spec hi hf) (by simpa using hr) hy hS (fun _ => hS) h
theorem wpG_done {L : Array Bool} {a : Act} {w : World} (hr : Region.ready md ops L = []) (h : Q .normal a w) : ∀ n, wpG Pg md ops Q last S n L a w
  | 0 => ⟨hr, h⟩
  | _ + 1 => ⟨fun _ => h, by rw [hr]; simp⟩
/-- one operation alone may come up -/
theorem wpG_one {i : Nat} {o : Oper} {n : Nat} {L : Array Bool} {a : Act} {w : World} (hr : Region.ready md ops L = [i]) (ho : ops[i]? = some o)
    (h : ∀ K : Act → World → Prop, Shut (∀ b u, (i ≠ last → S u) → wpG Pg md ops Q last S n (L.setIfInBounds i true) b u → K b u) → if Region.wanted o (yielded ops a.tmps) = true then Oper.wp Pg o a w K Q else K (a.put o.dst undef) w) :
    wpG Pg md ops Q last S (n + 1) L a w := by
  refine ⟨fun h0 => (by rw [hr] at h0; cases h0), fun j hj => ?_⟩
  rw [hr] at hj
  obtain rfl : j = i := by simpa using hj
  exact wpOp_step ho (fun K hK => h K (fun b u h1 h2 => hK b u ⟨h1, h2⟩))
theorem wp_region_G {id : Nat} {a : Act} {w : World} (hm : Pg.follows .mixedOrders = true) (h : wpG Pg .any ops Q last S ops.size (Array.replicate ops.size false) a w.drew) : (Code.region id ops true).wp Pg Q a w :=
  wp_region_any hm (wpG_any _ _ _ _ h)
end
end Go.Proofs.Ytmjfkjdfmpileaa.M
