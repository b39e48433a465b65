/- From the row's readings to trees. -/
import Derived.Test.YtmjfkjdfmpileaaSzS
import Derived.Test.YtmjfkjdfmpileaaProg
import Derived.Deep.Slices
import Derived.ChangeArms
import Derived.OpenShut
set_option linter.unusedVariables false
set_option linter.unusedSimpArgs false
namespace Go.Proofs.Ytmjfkjdfmpileaa.M
open Go.RowKit Go.ChangeShapes Go.WideShapes

/-- Whatever reads at type t is the cells of some datum. -/
def Rd {α : Type} (t : TypeId) (sz : Nat) (enc : α → List T) (ok : α → Prop) : Prop :=
  Try.prog.cellsOf t = sz ∧ ∀ {H : Type} (en : TypeId × Value → H) (W : World) (fuel : Nat) (cs : List Value) (x : DataW H × List MemPlace), DataW.trod en Try.prog W 0 (fun _ => true) true fuel t cs = some x → ∃ y : α, reps W (enc y) cs ∧ ok y
def boolC (x : Bool) : List T := [.b x]
theorem rd_int (t : TypeId) (h : Try.prog.underlying t = some (.int .i64)) (hc : Try.prog.cellsOf t = 1) : Rd t 1 intC (fun x => -9223372036854775808 ≤ x ∧ x ≤ 9223372036854775807) := by
  refine ⟨hc, fun en W fuel cs x hx => ?_⟩
  obtain ⟨n, rfl, rfl, hw⟩ := DataW.trod_int h hx
  refine ⟨n, by simp only [intC, reps]; exact ⟨_, _, rfl, by simp only [rep], rfl⟩, ?_⟩
  exact bounds_i64 hw
theorem rd_bool (t : TypeId) (h : Try.prog.underlying t = some .bool) (hc : Try.prog.cellsOf t = 1) : Rd t 1 boolC (fun _ => True) := by
  refine ⟨hc, fun en W fuel cs x hx => ?_⟩
  obtain ⟨n, rfl, rfl⟩ := DataW.trod_bool h hx
  exact ⟨n, by simp only [boolC, reps]; exact ⟨_, _, rfl, by simp only [rep], rfl⟩, trivial⟩
theorem rd_str (t : TypeId) (h : Try.prog.underlying t = some .string) (hc : Try.prog.cellsOf t = 1) : Rd t 1 strC (fun x => x.size ≤ 9223372036854775807) := by
  refine ⟨hc, fun en W fuel cs x hx => ?_⟩
  obtain ⟨n, rfl, rfl, hw⟩ := DataW.trod_string h hx
  exact ⟨n, by simp only [strC, reps]; exact ⟨_, _, rfl, by simp only [rep], rfl⟩, by simpa [maxLen] using hw⟩
theorem cells_at {W : World} {a : Addr} : ∀ {n : Nat} {cs : List Value}, W.cells? 0 a n = some cs → cs.length = n ∧ ∀ q u, cs[q]? = some u → W.cell? (a.add q) = some u := by
  intro n cs h
  unfold World.cells? at h
  rw [if_pos (Nat.zero_le _)] at h
  have hl : cs.length = n := by simpa using mapM_some_length h
  refine ⟨hl, fun q u hq => ?_⟩
  have hqn : q < n := by rw [← hl]; exact (List.getElem?_eq_some_iff.1 hq).1
  have := mapM_some_get h q q (by simp [hqn])
  rw [hq] at this
  exact this
theorem reps_flat {W : World} {α : Type} {enc : α → List T} : ∀ (n : Nat) (V : Nat → List Value) (Y : Nat → α), (∀ i, i < n → reps W (enc (Y i)) (V i)) → reps W (((List.range n).map Y).flatMap enc) ((List.range n).flatMap V)
  | 0, _, _, _ => by simp [reps]
  | n + 1, V, Y, h => by
    rw [List.range_succ, List.map_append, List.flatMap_append, List.flatMap_append]
    refine reps_append (reps_flat n V Y (fun i hi => h i (by omega))) ?_
    simpa using h n (by omega)
theorem rd_slice {α : Type} {t e : TypeId} {sz : Nat} {enc : α → List T} {ok : α → Prop} (d : α) (h : Try.prog.underlying t = some (.slice e)) (hc : Try.prog.cellsOf t = 1) (he : Rd e sz enc ok) (hf : ∀ x, (enc x).length = sz) (hsz : 0 < sz) :
    Rd t 1 (fun xs : List α => [tl e sz enc xs]) (fun xs => ∀ x ∈ xs, ok x) := by
  refine ⟨hc, fun en W fuel cs x hx => ?_⟩
  rcases Go.Deep.open_slice h hx with ⟨rfl, rfl⟩ | ⟨a, len, cap, m, n, D, Pl, rfl, hb, hl, hm, hmm, rfl, hxx⟩
  · refine ⟨[], ?_, by simp⟩
    simp only [reps]
    refine ⟨_, _, rfl, ?_, rfl⟩
    simp only [tl, rep]
    exact ⟨by simp, by simp, none, 0, [], rfl, by simp, by simp [reps], fun h => by simp at h⟩
  · have hmm' : len ≤ m := by rw [hmm]; simp; exact hl
    have key : ∀ i, ∃ p : α × List Value, i < len → reps W (enc p.1) p.2 ∧ ok p.1 ∧ p.2.length = sz ∧ ∀ q u, p.2[q]? = some u → W.cell? ((a.add (i * sz)).add q) = some u := by
      intro i
      by_cases hi : i < len
      · obtain ⟨cs', h1, h2⟩ := hxx i (by omega)
        rw [he.1] at h1
        obtain ⟨hl1, hc1⟩ := cells_at h1
        obtain ⟨y, hy, hk⟩ := he.2 en W n cs' _ h2
        exact ⟨(y, cs'), fun _ => ⟨hy, hk, hl1, hc1⟩⟩
      · exact ⟨(d, []), fun h => absurd h hi⟩
    obtain ⟨f, hf1⟩ := Classical.axiomOfChoice key
    have hlen : ((List.range len).map fun i => (f i).1).length = len := by simp
    refine ⟨(List.range len).map fun i => (f i).1, ?_, fun x hx => ?_⟩
    · simp only [reps]
      refine ⟨_, _, rfl, ?_, rfl⟩
      simp only [tl, rep]
      have hr := reps_flat (enc := enc) len (fun i => (f i).2) (fun i => (f i).1) (fun i hi => (hf1 i hi).1)
      refine ⟨length_flatMap enc sz hf _, by rw [hlen]; simp only [maxLen] at hm; omega, some a, cap, (List.range len).flatMap (fun i => (f i).2), by rw [hlen], by rw [hlen]; exact hl, hr, fun _ => ⟨a, rfl, ?_⟩⟩
      have flat : ∀ (n : Nat), n ≤ len → ∀ j u, ((List.range n).flatMap (fun i => (f i).2))[j]? = some u → W.cell? (a.add j) = some u := by
        intro n
        induction n with
        | zero => intro _ j u hj; simp at hj
        | succ n ih =>
          intro hn j u hj
          rw [List.range_succ, List.flatMap_append] at hj
          have hl2 : ((List.range n).flatMap (fun i => (f i).2)).length = n * sz := by
            have := reps_length (reps_flat (enc := enc) n (fun i => (f i).2) (fun i => (f i).1) (fun i hi => (hf1 i (by omega)).1))
            rw [this, length_flatMap enc sz hf]; simp
          by_cases hjn : j < n * sz
          · rw [List.getElem?_append_left (by omega)] at hj
            exact ih (by omega) j u hj
          · rw [List.getElem?_append_right (by omega), hl2] at hj
            have := (hf1 n (by omega)).2.2.2 (j - n * sz) u (by simpa using hj)
            rw [Go.Deep.add_add, show n * sz + (j - n * sz) = j by omega] at this
            exact this
      exact flat len (Nat.le_refl _)
    · obtain ⟨i, hi, rfl⟩ := List.mem_map.1 hx
      exact (hf1 i (List.mem_range.1 hi)).2.1

end Go.Proofs.Ytmjfkjdfmpileaa.M
