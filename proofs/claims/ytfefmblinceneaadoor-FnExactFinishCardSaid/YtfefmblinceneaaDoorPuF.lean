/- Plain functions: Finish. -/
import Derived.Test.YtfefmblinceneaaDoorFmt
import Derived.Test.YtfefmblinceneaaDoorPure
import Derived.Lib.Join
import Derived.Lib.Repeat
namespace Go.Proofs.YtfefmblinceneaaDoor.M
open Go.RowKit
def joinB (ts : List ByteArray) : ByteArray := ⟨(Lib.join (ts.map (·.data.toList)) [44]).toArray⟩
def whole (give : ByteArray) (ts : List ByteArray) : ByteArray := give ++ ⟨#[40]⟩ ++ joinB ts ++ ⟨#[41]⟩
def hStep (h : Nat) (b : UInt8) : Nat := ((h ^^^ b.toNat) * 1099511628211) % 18446744073709551616
def hashTo (s : ByteArray) (k : Nat) : Nat := (s.data.toList.take k).foldl hStep 14695981039346656037
def hexK : Nat → Nat → List Int
  | 0, _ => []
  | k + 1, n => hexK k (n / 16) ++ [hd16 (n % 16)]
def txtOk (t : ByteArray) : Bool := decide (t.size ≤ 200)
def finish (give : ByteArray) (ts : List ByteArray) : ByteArray :=
  if 30 < give.size ∨ 100 < ts.length then ⟨#[]⟩ else if ts.all txtOk = false then ⟨#[]⟩ else
  if (whole give ts).size ≤ 200 then whole give ts else ⟨#[35]⟩ ++ strOfNums (hexK 16 (hashTo (whole give ts) (whole give ts).size))
theorem hashTo_lt (s : ByteArray) : ∀ k, hashTo s k < 18446744073709551616 := by
  intro k
  unfold hashTo
  have : ∀ (l : List UInt8) (h : Nat), h < 18446744073709551616 → l.foldl hStep h < 18446744073709551616 := by
    intro l
    induction l with
    | nil => intro h hh; exact hh
    | cons b l ih => intro h _; exact ih _ (Nat.mod_lt _ (by omega))
  exact this _ _ (by omega)
theorem hashTo_zero (s : ByteArray) : hashTo s 0 = 14695981039346656037 := by unfold hashTo; rw [List.take_zero, List.foldl_nil]
theorem hashTo_succ (s : ByteArray) (k : Nat) (h : k < s.size) : hashTo s (k + 1) = hStep (hashTo s k) s[k] := by
  unfold hashTo; rw [str_take s k h, List.foldl_append, List.foldl_cons, List.foldl_nil]
theorem hashStep (s : ByteArray) (k : Nat) (h : k < s.size) : IntKind.u64.wrap (bits BinOp.xor IntKind.u64 ((hashTo s k : Nat) : Int) ((s[k].toNat : Nat) : Int) * 1099511628211) = ((hashTo s (k + 1) : Nat) : Int) := by
  rw [bits_xor_u64_nat _ _ (hashTo_lt s k) (by have := s[k].toNat_lt; omega), IntKind.wrap_u64, hashTo_succ s k h]
  unfold hStep
  rw [Int.natCast_emod, Int.natCast_mul]
  rfl
theorem hexL_length_le : ∀ (k n : Nat), n < 16 ^ (k + 1) → (hexL n).length ≤ k + 1
  | 0, n, h => by rw [hexL_small (by simpa using h)]; simp
  | k + 1, n, h => by
    by_cases hn : n < 16
    · rw [hexL_small hn]; simp
    · rw [hexL_big hn, List.length_append]
      have := hexL_length_le k (n / 16) (by rw [Nat.pow_succ] at h; omega)
      simp; omega
theorem hexK_zero : ∀ k, hexK k 0 = List.replicate k 48
  | 0 => rfl
  | k + 1 => by rw [hexK, hexK_zero k, List.replicate_succ']; rfl
theorem hexK_pad : ∀ (k n : Nat), n < 16 ^ (k + 1) → hexK (k + 1) n = List.replicate (k + 1 - (hexL n).length) 48 ++ hexL n
  | 0, n, h => by
    have hn : n < 16 := by simpa using h
    rw [hexL_small hn, hexK, hexK, Nat.mod_eq_of_lt hn]; simp
  | k + 1, n, h => by
    by_cases hn : n < 16
    · rw [hexL_small hn, hexK, Nat.mod_eq_of_lt hn, Nat.div_eq_of_lt hn, hexK_zero]; simp
    · rw [hexL_big hn, hexK, hexK_pad k (n / 16) (by rw [Nat.pow_succ] at h; omega)]
      have := hexL_length_le k (n / 16) (by rw [Nat.pow_succ] at h; omega)
      rw [List.length_append, List.append_assoc]
      simp
theorem hexL_len (n : Nat) (h : n < 18446744073709551616) : 1 ≤ (hexL n).length ∧ (hexL n).length ≤ 16 := by
  refine ⟨?_, hexL_length_le 15 n (by simpa using h)⟩
  by_cases hn : n < 16
  · rw [hexL_small hn]; simp
  · rw [hexL_big hn]; simp
/-- the padding, as Repeat writes it -/
theorem pad16 (n : Nat) (h : n < 18446744073709551616) : (⟨(Lib.repeatL [48] (16 - (hexL n).length)).toArray⟩ : ByteArray) ++ strOfNums (hexL n) = strOfNums (hexK 16 n) := by
  rw [hexK_pad 15 n (by simpa using h)]
  apply ByteArray.ext
  have : Lib.repeatL [48] (16 - (hexL n).length) = List.replicate (16 - (hexL n).length) 48 := by
    have := Lib.repeatL_replicate 48 1 (16 - (hexL n).length); simpa using this
  rw [this]
  simp [strOfNums]
theorem joinB_zero (ts : List ByteArray) : joinB (ts.take 0) = ⟨#[]⟩ := by simp [joinB, Lib.join_nil]
theorem joinB_nil : joinB [] = ⟨#[]⟩ := by simp [joinB, Lib.join_nil]
theorem joinB_one (ts : List ByteArray) (h : 0 < ts.length) : joinB (ts.take 1) = ts[0] := by
  cases ts with
  | nil => simp at h
  | cons t ts => simp [joinB, Lib.join_one]
theorem joinB_succ (ts : List ByteArray) (k : Nat) (h : k + 1 < ts.length) : joinB (ts.take (k + 2)) = joinB (ts.take (k + 1)) ++ ⟨#[44]⟩ ++ ts[k + 1] := by
  cases ts with
  | nil => simp at h
  | cons t ts =>
    simp only [List.take_succ_cons, List.map_cons, joinB, Lib.join_cons]
    have hk : k < ts.length := by simpa using h
    rw [List.map_take, Lib.joinTail_take_succ _ _ k (ts[k]).data.toList (by simp [hk]), ← List.map_take]
    apply ByteArray.ext
    simp
theorem joinB_size (ts : List ByteArray) (h : ts.all txtOk = true) : (joinB ts).size ≤ ts.length * 201 := by
  cases ts with
  | nil => simp [joinB, Lib.join_nil]; rfl
  | cons t ts =>
    have key : ∀ l : List ByteArray, l.all txtOk = true → Lib.lens (l.map (·.data.toList)) ≤ l.length * 200 := by
      intro l
      induction l with
      | nil => intro _; simp [Lib.lens]
      | cons a l ih =>
        intro h
        simp only [List.all_cons, Bool.and_eq_true] at h
        have h1 := ih h.2
        have h2 : a.size ≤ 200 := by simpa [txtOk] using h.1
        have h3 : a.data.size = a.size := rfl
        simp only [Lib.lens, List.map_cons, List.sum_cons, Array.length_toList, List.length_cons] at h1 ⊢
        omega
    have h1 := key _ h
    show (Lib.join ((t :: ts).map (·.data.toList)) [44]).toArray.size ≤ _
    rw [List.size_toArray, List.map_cons, Lib.join_length]
    rw [List.map_cons] at h1
    simp only [List.length_cons, List.length_map, List.length_nil] at h1 ⊢
    omega
theorem joinB_take_size (ts : List ByteArray) (k : Nat) (h : allTo txtOk ts k) (hk : k ≤ ts.length) : (joinB (ts.take k)).size ≤ k * 201 := by
  have := joinB_size (ts.take k) h
  rw [List.length_take, Nat.min_eq_left hk] at this
  exact this
end Go.Proofs.YtfefmblinceneaaDoor.M
