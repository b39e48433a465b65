/- Values in blocks of their own between two bounds; what marks do to them. -/
import Derived.Test.YtmjfkjdfmpileaaMrk
set_option linter.unusedVariables false
set_option linter.unusedSimpArgs false
namespace Go.Proofs.Ytmjfkjdfmpileaa.M
open Go.RowKit
/-- the slices of a struct's cells marked, the others as they are -/
def mrkl : List T → Nat → List T
  | [], _ => []
  | .l e sz n cells :: ts, k => mrk (.l e sz n cells) k :: mrkl ts (k + cnts cells)
  | .i a b :: ts, k => .i a b :: mrkl ts k
  | .b a :: ts, k => .b a :: mrkl ts k
  | .s a :: ts, k => .s a :: mrkl ts k
def cntl : List T → Nat
  | [] => 0
  | .l _ _ _ cells :: ts => cnts cells + cntl ts
  | _ :: ts => cntl ts
def Iv (lo hi : Nat) (w : World) (ts : List T) (vs : List Value) : Prop := ∃ F, owns w ts vs F ∧ F.Nodup ∧ ∀ b ∈ F, lo ≤ b ∧ b < hi
def MrkI (ts : List T) (vs : List Value) (lo hi k : Nat) (w : World) (e : Ending) (w' : World) : Prop :=
  e = .returned (.int .i64 ((k + cntl ts : Nat) : Int)) ∧ Iv lo hi w' (mrkl ts k) vs ∧ Far lo hi w w'
theorem Far.of_below {w w' : World} (h : Below w.heap.size w w') : Far 0 0 w w' := ⟨h.os, h.tape, h.output, h.size, fun b hb _ => h.block b hb⟩
theorem Far.trans2 {B lo hi : Nat} {w W w' : World} (hb : Below B w W) (h : Far lo hi W w') (hB : B ≤ lo ∨ hi = 0) (hW : B ≤ W.heap.size) : Below B w w' :=
  ⟨h.os.trans hb.os, h.tape.trans hb.tape, h.output.trans hb.output, Nat.le_trans hb.size h.size, fun k hk => (h.block k (by omega) (by rcases hB with h | h <;> omega)).trans (hb.block k hk)⟩
theorem MFr.far {F : List Nat} {w w' : World} {lo hi : Nat} (h : MFr F w w') (hF : ∀ b ∈ F, lo ≤ b ∧ b < hi) : Far lo hi w w' :=
  ⟨h.os, h.tape, h.output, h.size, fun b hb ho => h.block b hb (fun hf => by have := hF b hf; omega)⟩
section
variable {lo hi : Nat} {w w' : World} {ts : List T} {vs : List Value}
theorem Iv.reps (h : Iv lo hi w ts vs) : M.reps w ts vs := by obtain ⟨F, h1, _⟩ := h; exact h1.rep
theorem Iv.below (h : Iv lo hi w ts vs) (hb : Below w.heap.size w w') : Iv lo hi w' ts vs := by obtain ⟨F, h1, h2, h3⟩ := h; exact ⟨F, h1.below hb, h2, h3⟩
theorem Iv.far {a b : Nat} (h : Iv lo hi w ts vs) (hf : Far a b w w') (hd : hi ≤ a ∨ b ≤ lo) : Iv lo hi w' ts vs := by
  obtain ⟨F, h1, h2, h3⟩ := h
  exact ⟨F, h1.move fun k hk => hf.block k (h1.lt k hk) (by have := h3 k hk; omega), h2, h3⟩
theorem Iv.of_mades {W : World} (h : Mades W w ts vs) : Iv W.heap.size w.heap.size w ts vs := by
  obtain ⟨F, h1, h2, h3⟩ := h
  exact ⟨F, h1, h2, fun b hb => ⟨h3 b hb, h1.lt b hb⟩⟩
theorem Iv.of_lie {t : T} {v : Value} (h : Lie lo w t v) : Iv lo w.heap.size w [t] [v] := by
  obtain ⟨F, h1, h2, h3⟩ := h
  exact ⟨F, by simp only [owns]; exact ⟨_, _, F, [], rfl, h1, ⟨rfl, rfl⟩, by simp⟩, h2, fun b hb => ⟨h3 b hb, h1.lt b hb⟩⟩
theorem Iv.mono {lo' hi' : Nat} (h : Iv lo hi w ts vs) (h1 : lo' ≤ lo) (h2 : hi ≤ hi') : Iv lo' hi' w ts vs := by
  obtain ⟨F, a, b, c⟩ := h; exact ⟨F, a, b, fun k hk => by have := c k hk; omega⟩
theorem Iv.one {t : T} {v : Value} (h : Iv lo hi w [t] [v]) : ∃ F, own w t v F ∧ F.Nodup ∧ ∀ b ∈ F, lo ≤ b ∧ b < hi := by
  obtain ⟨F, h1, h2, h3⟩ := h
  simp only [owns] at h1
  obtain ⟨v', us, F1, F2, he, o, ⟨rfl, rfl⟩, rfl⟩ := h1
  cases he
  rw [List.append_nil] at h2 h3
  exact ⟨F1, o, h2, h3⟩
theorem Iv.mk {t : T} {v : Value} {F : List Nat} (h : own w t v F) (hn : F.Nodup) (hF : ∀ b ∈ F, lo ≤ b ∧ b < hi) : Iv lo hi w [t] [v] :=
  ⟨F, by simp only [owns]; exact ⟨_, _, F, [], rfl, h, ⟨rfl, rfl⟩, by simp⟩, hn, hF⟩
end
theorem mrkl_one (e sz n : Nat) (cells : List T) (k : Nat) : mrkl [.l e sz n cells] k = [mrk (.l e sz n cells) k] := rfl
theorem cntl_one (e sz n : Nat) (cells : List T) : cntl [.l e sz n cells] = cnts cells := by simp [cntl]
/-- a list of the result is at most so long as the sizes say -/
theorem cnts_flat {α : Type} (enc : α → List T) (b : α → Nat) (C : Nat) (hC : 1 ≤ C) : ∀ (xs : List α), (∀ x ∈ xs, cnts (enc x) ≤ C * (1 + b x)) → cnts (xs.flatMap enc) ≤ C * (xs.length + (xs.map b).sum)
  | [], _ => by simp [cnts]
  | x :: xs, h => by
    have ih := cnts_flat enc b C hC xs (fun y hy => h y (List.mem_cons_of_mem _ hy))
    have h1 := h x (List.mem_cons_self ..)
    rw [List.flatMap_cons, cnts_append, List.length_cons, List.map_cons, List.sum_cons]
    have e : C * (xs.length + 1 + (b x + (xs.map b).sum)) = C * (1 + b x) + C * (xs.length + (xs.map b).sum) := by rw [← Nat.mul_add]; congr 1; omega
    omega
end Go.Proofs.Ytmjfkjdfmpileaa.M
