/- Marks: what the laws write into what was handed out, and how it is read again; data as trees. -/
import Derived.Test.YtmjfkjdfmpileaaAcc
import Derived.Test.YtmjfkjdfmpileaaRd
set_option linter.unusedVariables false
set_option linter.unusedSimpArgs false
namespace Go.Proofs.Ytmjfkjdfmpileaa.M
open Go.RowKit
/-- decimal digits ahead of a text -/
def dg : Nat → Nat → List UInt8 → List UInt8
  | 0, _, o => o
  | f + 1, n, o => if n = 0 then o else dg f (n / 10) (UInt8.ofNat (48 + n % 10) :: o)
theorem dg_more : ∀ (f n : Nat) (o : List UInt8), n ≤ f → dg (f + 1) n o = dg f n o
  | 0, n, o, h => by obtain rfl : n = 0 := by omega
                     simp [dg]
  | f + 1, n, o, h => by
    show (if n = 0 then o else dg (f + 1) (n / 10) _) = (if n = 0 then o else dg f (n / 10) _)
    split
    · rfl
    · exact dg_more f (n / 10) _ (by omega)
theorem dg_all (n : Nat) (o : List UInt8) : ∀ (f : Nat), n ≤ f → dg f n o = dg n n o
  | 0, h => by obtain rfl : n = 0 := by omega
               rfl
  | f + 1, h => by
    rcases Nat.lt_or_ge f n with hlt | hge
    · obtain rfl : n = f + 1 := by omega
      rfl
    · rw [dg_more f n o hge, dg_all n o f hge]
theorem dg_step {n : Nat} (o : List UInt8) (h : 0 < n) : dg n n o = dg (n / 10) (n / 10) (UInt8.ofNat (48 + n % 10) :: o) := by
  obtain ⟨m, rfl⟩ : ∃ m, n = m + 1 := ⟨n - 1, by omega⟩
  rw [dg, if_neg (by omega)]
  exact dg_all _ _ _ (by omega)
def mkB (k : Nat) : ByteArray := ⟨(109 :: dg k k []).toArray⟩
set_option maxRecDepth 100000 in
set_option maxHeartbeats 1000000 in
theorem markText_calls (k : Nat) (w : World) (h0 : 1 ≤ k) (hk : k ≤ 1000000000) :
    Calls Try.prog 66 #[.int .i64 k] w fun e w' => e = .returned (.string (mkB k)) ∧ Below w.heap.size w w' := by
  have q1 : ¬(k : Int) ≤ 0 := by omega
  go_enter Try.func66, Try.ntmps66
  go_wp2
  go_loopw [0, 3] (fun n o wr => ∃ (m : Nat) (l : List UInt8), l.length + m ≤ k ∧ n = .int .i64 m ∧ o = .string ⟨l.toArray⟩ ∧ dg m m l = dg k k [] ∧ Below w.heap.size w wr) (fun n _ _ => (intOf n).toNat)
  case atStart => exact ⟨k, [], by simp, rfl, rfl, rfl, Below.refl _ _⟩
  case round =>
    obtain ⟨m, l, hm, rfl, rfl, hd, hb⟩ := hrel
    by_cases hlt : 0 < m
    · have e1 := Asd.mk ((dg_step l hlt).symm.trans hd)
      clear hd
      have hch : (UInt8.ofNat (48 + m % 10)).toNat = 48 + m % 10 := by simp; omega
      have hcv := run_convert_bytes_back (P := Try.prog) (wr.alloc (.cells #[.int .u8 (48 + (m : Int) % 10)] 5)) 51 9 5 ⟨wr.heap.size, 0, none⟩ 1 [UInt8.ofNat (48 + m % 10)] Try.underlying51 Try.underlying5 Try.underlying9 (fun j hj => by
        obtain rfl : j = 0 := by simpa using hj
        rw [show ((⟨wr.heap.size, 0, none⟩ : Addr).add 0) = ⟨wr.heap.size, 0, none⟩ from rfl]
        rw [World.cell?_alloc_at _ _ _ _ (by simp)]
        simp only [List.getElem_cons_zero, hch]
        simp)
      simp only [List.length_cons, List.length_nil, Nat.zero_add] at hcv
      clear hch
      go_wp2
      go_roundw
      case rel =>
        refine ⟨m / 10, UInt8.ofNat (48 + m % 10) :: l, by simp; omega, by go_num, ?_, e1.out, by repeat (first | (with_reducible exact Below.refl _ _) | (with_reducible exact hb) | (with_reducible refine below_al ?_ _) | (with_reducible refine below_dr ?_ _) | (with_reducible refine below_d1 ?_) | ((with_reducible refine Below.setCell ?_ ?_ _); rotate_left; (next => first | (simp; done) | (simp; omega) | omega)))⟩
        congr 1
        refine ByteArray.ext ?_
        simp [ByteArray.data_append, UInt8.ofNat_add]
      case measure => simp [intOf]; omega
    · have e1 := Asd.mk hd
      have h1 : (m : Int) ≤ 0 := by omega
      clear hd
      go_wp2
      refine bodyPost_ret (v := .string (⟨#[109]⟩ ++ ⟨l.toArray⟩)) (by simp [results, Try.results66, go_sem, *]) rfl ?_
      obtain rfl : m = 0 := by omega
      have e2 := e1.out
      refine ⟨?_, hb⟩
      unfold mkB
      rw [← e2]
      rfl
theorem markText_callsI (k : Nat) (n : Int) (w : World) (hn : n = k) (h0 : 1 ≤ k) (hk : k ≤ 1000000000) : Calls Try.prog 66 #[.int .i64 n] w fun e w' => e = .returned (.string (mkB k)) ∧ Below w.heap.size w w' := by
  subst hn; exact markText_calls k w h0 hk
/-! ### marked trees -/
mutual
def cnt : T → Nat
  | .i _ _ => 1
  | .b _ => 1
  | .s _ => 1
  | .l _ _ _ cells => cnts cells
def cnts : List T → Nat
  | [] => 0
  | t :: ts => cnt t + cnts ts
end
def m3 (k : Nat) : Bool := (k : Int) % 3 == 0
mutual
def mrk : T → Nat → T
  | .i kd _, k => .i kd k
  | .b _, k => .b (m3 k)
  | .s _, k => .s (mkB k)
  | .l e sz n cells, k => .l e sz n (mrks cells k)
def mrks : List T → Nat → List T
  | [], _ => []
  | t :: ts, k => mrk t k :: mrks ts (k + cnt t)
end
theorem cnts_append : ∀ (a b : List T), cnts (a ++ b) = cnts a + cnts b
  | [], b => by simp [cnts]
  | t :: a, b => by rw [List.cons_append, cnts, cnts, cnts_append a b]; omega
theorem mrks_length : ∀ (a : List T) (k : Nat), (mrks a k).length = a.length
  | [], _ => rfl
  | t :: a, k => by rw [mrks, List.length_cons, List.length_cons, mrks_length a]
theorem mrks_append : ∀ (a b : List T) (k : Nat), mrks (a ++ b) k = mrks a k ++ mrks b (k + cnts a)
  | [], b, k => by simp [mrks, cnts]
  | t :: a, b, k => by
    rw [List.cons_append, mrks, mrks, mrks_append a b, List.cons_append, cnts, Nat.add_assoc]
/-- the first m cells marked -/
def mTo (cells : List T) (m k : Nat) : List T := mrks (cells.take m) k ++ cells.drop m
def kTo (cells : List T) (m k : Nat) : Nat := k + cnts (cells.take m)
theorem mTo_zero (cells : List T) (k : Nat) : mTo cells 0 k = cells := by simp [mTo, mrks]
theorem kTo_zero (cells : List T) (k : Nat) : kTo cells 0 k = k := by simp [kTo, cnts]
theorem mTo_end (cells : List T) (k : Nat) : mTo cells cells.length k = mrks cells k := by simp [mTo]
theorem kTo_end (cells : List T) (k : Nat) : kTo cells cells.length k = k + cnts cells := by simp [kTo]
theorem kTo_succ {cells : List T} {m : Nat} (k : Nat) (h : m < cells.length) : kTo cells (m + 1) k = kTo cells m k + cnt cells[m] := by
  unfold kTo; rw [List.take_succ_eq_append_getElem h, cnts_append]; simp [cnts]; omega
theorem kTo_le {cells : List T} {m : Nat} (k : Nat) (h : m < cells.length) : kTo cells m k + cnt cells[m] ≤ k + cnts cells := by
  rw [← kTo_succ k h]; unfold kTo
  have := cnts_append (cells.take (m + 1)) (cells.drop (m + 1))
  rw [List.take_append_drop] at this
  omega
theorem kTo_ge (cells : List T) (m k : Nat) : k ≤ kTo cells m k := by unfold kTo; omega
theorem mTo_length (cells : List T) (m k : Nat) : (mTo cells m k).length = cells.length := by
  unfold mTo; rw [List.length_append, mrks_length, List.length_take, List.length_drop]; omega
theorem mTo_set {cells : List T} {m : Nat} (k : Nat) (h : m < cells.length) : (mTo cells m k).set m (mrk cells[m] (kTo cells m k)) = mTo cells (m + 1) k := by
  have hl : (mrks (cells.take m) k).length = m := by rw [mrks_length, List.length_take]; omega
  unfold mTo
  rw [List.set_append_right _ _ (by omega), hl, Nat.sub_self, List.drop_eq_getElem_cons h, List.set_cons_zero, List.take_succ_eq_append_getElem h, mrks_append]
  simp [mrks, kTo]
theorem mTo_get {cells : List T} {m : Nat} (k : Nat) (h : m < cells.length) {hm : m < (mTo cells m k).length} : (mTo cells m k)[m] = cells[m] := by
  have hl : (mrks (cells.take m) k).length = m := by rw [mrks_length, List.length_take]; omega
  have e : (mTo cells m k)[m]? = cells[m]? := by
    unfold mTo
    rw [List.getElem?_append_right (by omega), hl, Nat.sub_self, List.getElem?_drop, Nat.add_zero]
  rw [List.getElem?_eq_getElem hm, List.getElem?_eq_getElem h] at e
  exact Option.some.inj e
theorem mrks_get {cells : List T} {m : Nat} (k : Nat) (h : m < cells.length) {hm : m < (mrks cells k).length} : (mrks cells k)[m] = mrk cells[m] (kTo cells m k) := by
  have e : mrks cells k = mrks (cells.take m) k ++ mrks (cells.drop m) (kTo cells m k) := by
    have := mrks_append (cells.take m) (cells.drop m) k
    rw [List.take_append_drop] at this
    exact this
  have hl : (mrks (cells.take m) k).length = m := by rw [mrks_length, List.length_take]; omega
  have e2 : (mrks cells k)[m]? = some (mrk cells[m] (kTo cells m k)) := by
    rw [e, List.getElem?_append_right (by omega), hl, Nat.sub_self, List.drop_eq_getElem_cons h, mrks]
    rfl
  rw [List.getElem?_eq_getElem hm] at e2
  exact Option.some.inj e2
/-- a cell of an element -/
theorem fm_get {α : Type} {enc : α → List T} {sz : Nat} (hf : ∀ x, (enc x).length = sz) {xs : List α} {i q : Nat} (hi : i < xs.length) (hq : q < (enc xs[i]).length) : ∃ h : i * sz + q < (xs.flatMap enc).length, (xs.flatMap enc)[i * sz + q] = (enc xs[i])[q] := by
  have hl : (xs.flatMap enc).length = xs.length * sz := length_flatMap enc sz hf xs
  have hq' : q < sz := by rw [← hf xs[i]]; exact hq
  have h : i * sz + q < (xs.flatMap enc).length := by
    rw [hl]
    calc i * sz + q < i * sz + sz := by omega
      _ = (i + 1) * sz := by rw [Nat.add_mul]; omega
      _ ≤ xs.length * sz := Nat.mul_le_mul_right _ (by omega)
  refine ⟨h, ?_⟩
  have hd := drop_flatMap enc sz hf xs i
  have : (xs.flatMap enc)[i * sz + q]? = (enc xs[i])[q]? := by
    rw [← List.getElem?_drop, hd, List.drop_eq_getElem_cons hi, List.flatMap_cons, List.getElem?_append_left hq]
  rw [List.getElem?_eq_getElem h, List.getElem?_eq_getElem hq] at this
  exact Option.some.inj this
theorem fm_get1 {α : Type} {enc : α → List T} (hf : ∀ x, (enc x).length = 1) {xs : List α} {i : Nat} (hi : i < xs.length) : ∃ h : i < (xs.flatMap enc).length, (xs.flatMap enc)[i] = (enc xs[i])[0]'(by rw [hf]; decide) := by
  obtain ⟨h, e⟩ := fm_get (q := 0) hf hi (by rw [hf]; decide)
  simp only [Nat.mul_one, Nat.add_zero] at h e
  exact ⟨h, e⟩
theorem fm_at {α : Type} {enc : α → List T} {sz : Nat} (hf : ∀ x, (enc x).length = sz) {xs : List α} {i m q : Nat} {t : T} (hi : i < xs.length) (hm : m = i * sz + q) (hq : (enc xs[i])[q]? = some t) : ∃ h : m < (xs.flatMap enc).length, (xs.flatMap enc)[m] = t := by
  subst hm
  obtain ⟨h1, h2⟩ := List.getElem?_eq_some_iff.1 hq
  obtain ⟨h, e⟩ := fm_get hf hi h1
  exact ⟨h, e.trans h2⟩
theorem kTo_elem {α : Type} {enc : α → List T} {sz : Nat} (hf : ∀ x, (enc x).length = sz) {xs : List α} {i : Nat} (k : Nat) (hi : i < xs.length) : kTo (xs.flatMap enc) ((i + 1) * sz) k = kTo (xs.flatMap enc) (i * sz) k + cnts (enc xs[i]) := by
  unfold kTo
  rw [take_flatMap enc sz hf, take_flatMap enc sz hf, List.take_succ_eq_append_getElem hi, List.flatMap_append, cnts_append]
  simp; omega
/-! ### what a marking leaves as it was -/
structure MFr (F : List Nat) (w w' : World) : Prop where
  os : w'.os = w.os
  tape : w'.tape = w.tape
  output : w'.output = w.output
  size : w.heap.size ≤ w'.heap.size
  block : ∀ b, b < w.heap.size → b ∉ F → w'.heap[b]? = w.heap[b]?
theorem MFr.refl (F : List Nat) (w : World) : MFr F w w := ⟨rfl, rfl, rfl, Nat.le_refl _, fun _ _ _ => rfl⟩
theorem MFr.trans {F : List Nat} {w w1 w2 : World} (h : MFr F w w1) (k : MFr F w1 w2) : MFr F w w2 :=
  ⟨k.os.trans h.os, k.tape.trans h.tape, k.output.trans h.output, Nat.le_trans h.size k.size, fun b hb hn => (k.block b (Nat.lt_of_lt_of_le hb h.size) hn).trans (h.block b hb hn)⟩
theorem MFr.mono {F G : List Nat} {w w1 : World} (h : MFr F w w1) (hs : ∀ b ∈ F, b ∈ G) : MFr G w w1 :=
  ⟨h.os, h.tape, h.output, h.size, fun b hb hn => h.block b hb (fun hf => hn (hs b hf))⟩
theorem MFr.of_below {F : List Nat} {w w1 : World} (h : Below w.heap.size w w1) : MFr F w w1 := ⟨h.os, h.tape, h.output, h.size, fun b hb _ => h.block b hb⟩
theorem MFr.of_set {F : List Nat} {w : World} {p : Addr} (u : Value) (hp : p.block ∈ F) : MFr F w (w.setCell p u) := by
  have h : Below 0 w (w.setCell p u) := Below.setCell (Below.refl 0 w) (Nat.zero_le _) u
  exact ⟨h.os, h.tape, h.output, h.size, fun b hb hn => Below.heap_setCell w p u b (fun e => hn (e ▸ hp))⟩
theorem MFr.cell {F : List Nat} {w w1 : World} (h : MFr F w w1) {b o : Nat} (hb : b < w.heap.size) (hn : b ∉ F) : w1.cell? ⟨b, o, none⟩ = w.cell? ⟨b, o, none⟩ := World.cell?_of_block (h.block b hb hn)
theorem MFr.frozen {F : List Nat} {w w1 : World} (h : MFr F w w1) {b o : Nat} (hb : b < w.heap.size) (hn : b ∉ F) : w1.frozen? ⟨b, o, none⟩ = w.frozen? ⟨b, o, none⟩ := World.frozen?_of_block (h.block b hb hn)
theorem MFr.below {F : List Nat} {w w1 : World} {lo : Nat} (h : MFr F w w1) (hl : lo ≤ w.heap.size) (hF : ∀ b ∈ F, lo ≤ b) : Below lo w w1 :=
  ⟨h.os, h.tape, h.output, h.size, fun k hk => h.block k (by omega) (fun hf => by have := hF k hf; omega)⟩
theorem MFr.own {F G : List Nat} {w w1 : World} (h : MFr F w w1) {t : T} {v : Value} (ho : own w t v G) (hd : ∀ b ∈ G, b ∉ F) : M.own w1 t v G := ho.move fun b hb => h.block b (ho.lt b hb) (hd b hb)
theorem MFr.owns {F G : List Nat} {w w1 : World} (h : MFr F w w1) {t : List T} {v : List Value} (ho : owns w t v G) (hd : ∀ b ∈ G, b ∉ F) : M.owns w1 t v G := ho.move fun b hb => h.block b (ho.lt b hb) (hd b hb)
/-- marked -/
def MrkP (t : T) (v : Value) (F : List Nat) (k : Nat) (w : World) (e : Ending) (w' : World) : Prop :=
  e = .returned (.int .i64 ((k + cnt t : Nat) : Int)) ∧ (∃ F', own w' (mrk t k) v F' ∧ F'.Nodup ∧ ∀ b ∈ F', b ∈ F) ∧ MFr F w w'
/-- one cell of a list, with its own blocks, and the way back -/
theorem owns_sub {w : World} : ∀ {ts : List T} {vs : List Value} {F : List Nat} {j : Nat}, owns w ts vs F → (hj : j < ts.length) → F.Nodup → ∃ u Fj, own w ts[j] u Fj ∧ (∀ b ∈ Fj, b ∈ F) ∧ Fj.Nodup ∧ vs[j]? = some u ∧
    ∀ w' t' Fj', own w' t' u Fj' → (∀ b ∈ Fj', b ∈ Fj) → Fj'.Nodup → MFr Fj w w' → ∃ F2, owns w' (ts.set j t') vs F2 ∧ (∀ b ∈ F2, b ∈ F) ∧ F2.Nodup
  | [], _, _, _, _, hj, _ => by simp at hj
  | t :: ts, vs, F, 0, h, hj, hn => by
    simp only [owns] at h
    obtain ⟨v, us, F1, F2, rfl, h1, h2, rfl⟩ := h
    obtain ⟨n1, n2, n3⟩ := List.nodup_append.1 hn
    refine ⟨v, F1, h1, fun b hb => List.mem_append_left _ hb, n1, rfl, fun w' t' Fj' o1 s1 d1 m1 => ⟨Fj' ++ F2, ?_, fun b hb => ?_, ?_⟩⟩
    · simp only [List.set_cons_zero, owns]
      exact ⟨v, us, Fj', F2, rfl, o1, m1.owns h2 (fun b hb hb' => n3 b hb' b hb rfl), rfl⟩
    · exact (List.mem_append.1 hb).elim (fun h => List.mem_append_left _ (s1 b h)) (fun h => List.mem_append_right _ h)
    · exact nod2 d1 n2 (fun a ha hb => n3 a (s1 a ha) a hb rfl)
  | t :: ts, vs, F, j + 1, h, hj, hn => by
    simp only [owns] at h
    obtain ⟨v, us, F1, F2, rfl, h1, h2, rfl⟩ := h
    obtain ⟨n1, n2, n3⟩ := List.nodup_append.1 hn
    obtain ⟨u, Fj, k1, k2, k3, k4, k5⟩ := owns_sub (j := j) h2 (by simpa using hj) n2
    refine ⟨u, Fj, k1, fun b hb => List.mem_append_right _ (k2 b hb), k3, k4, fun w' t' Fj' o1 s1 d1 m1 => ?_⟩
    obtain ⟨F3, r1, r2, r3⟩ := k5 w' t' Fj' o1 s1 d1 m1
    refine ⟨F1 ++ F3, ?_, fun b hb => ?_, nod2 n1 r3 (fun a ha hb => n3 a ha a (r2 a hb) rfl)⟩
    · simp only [List.set_cons_succ, owns]
      exact ⟨v, us, F1, F3, rfl, m1.own h1 (fun b hb hb' => n3 b hb b (k2 b hb') rfl), r1, rfl⟩
    · exact (List.mem_append.1 hb).elim (fun h => List.mem_append_left _ h) (fun h => List.mem_append_right _ (r2 b h))
/-- a list under way: its first m cells marked -/
def MS (cells : List T) (e sz n : Nat) (v : Value) (F0 : List Nat) (w0 : World) (k m : Nat) (w : World) : Prop := ∃ F, own w (.l e sz n (mTo cells m k)) v F ∧ F.Nodup ∧ (∀ b ∈ F, b ∈ F0) ∧ MFr F0 w0 w
section
variable {cells : List T} {e sz n c g k m : Nat} {F0 : List Nat} {w0 w w1 : World} {v : Value}
theorem MS.start (h : own w0 (.l e sz n cells) v F0) (hn : F0.Nodup) : MS cells e sz n v F0 w0 k 0 w0 := ⟨F0, by rw [mTo_zero]; exact h, hn, fun _ h => h, MFr.refl _ _⟩
theorem MS.fin (h : MS cells e sz n v F0 w0 k cells.length w) : ∃ F', own w (mrk (.l e sz n cells) k) v F' ∧ F'.Nodup ∧ ∀ b ∈ F', b ∈ F0 := by
  obtain ⟨F, h1, h2, h3, _⟩ := h
  rw [mTo_end] at h1
  exact ⟨F, h1, h2, h3⟩
theorem MS.fin2 (hm : m = cells.length) (h : MS cells e sz n v F0 w0 k m w) : ∃ F', own w (mrk (.l e sz n cells) k) v F' ∧ F'.Nodup ∧ ∀ b ∈ F', b ∈ F0 := by
  subst hm; exact h.fin
theorem MS.fr (h : MS cells e sz n v F0 w0 k m w) : MFr F0 w0 w := by obtain ⟨F, _, _, _, h⟩ := h; exact h
theorem MS.below (h : MS cells e sz n v F0 w0 k m w) (hb : Below w.heap.size w w1) : MS cells e sz n v F0 w0 k m w1 := by
  obtain ⟨F, h1, h2, h3, h4⟩ := h; exact ⟨F, h1.below hb, h2, h3, h4.trans (MFr.of_below hb)⟩
theorem MS.at (h : MS cells e sz n (.slice (some ⟨g, 0, none⟩) n c) F0 w0 k m w) : g < w.heap.size ∨ cells.length = 0 := by
  obtain ⟨F, h1, _⟩ := h
  rcases Nat.eq_zero_or_pos cells.length with h0 | h0
  · exact .inr h0
  · obtain ⟨vs, G, _, hF, _⟩ := own_cell h1 (by rw [mTo_length]; exact h0)
    exact .inl (h1.lt g (by rw [hF]; simp))
/-- every cell is there and may be written -/
theorem MS.cell (h : MS cells e sz n (.slice (some ⟨g, 0, none⟩) n c) F0 w0 k m w) {j : Nat} (hj : j < cells.length) : ∃ u, w.cell? ⟨g, j, none⟩ = some u ∧ w.frozen? ⟨g, j, none⟩ = false := by
  obtain ⟨F, h1, _⟩ := h; exact own_at h1 (by rw [mTo_length]; exact hj)
theorem MS.store (h : MS cells e sz n (.slice (some ⟨g, 0, none⟩) n c) F0 w0 k m w) (hm : m < cells.length) {u : Value} (hu : own w (mrk cells[m] (kTo cells m k)) u []) : MS cells e sz n (.slice (some ⟨g, 0, none⟩) n c) F0 w0 k (m + 1) (w.setCell ⟨g, m, none⟩ u) := by
  obtain ⟨F, h1, h2, h3, h4⟩ := h
  obtain ⟨F2, k1, k2, k3⟩ := own_store (j := m) h1 (by rw [mTo_length]; exact hm) hu (by simp)
  rw [mTo_set k hm] at k1
  have hg : g ∈ F0 := by
    obtain ⟨vs, G, _, hF, _⟩ := own_cell h1 (by rw [mTo_length]; omega)
    exact h3 g (by rw [hF]; simp)
  exact ⟨F2, k1, k3 h2 List.nodup_nil (by simp), fun b hb => h3 b ((k2 b hb).elim id (fun h => by cases h)), h4.trans (MFr.of_set u hg)⟩
theorem MS.nested (h : MS cells e sz n (.slice (some ⟨g, 0, none⟩) n c) F0 w0 k m w) (hm : m < cells.length) : ∃ u Fj, own w cells[m] u Fj ∧ Fj.Nodup ∧ g ∉ Fj ∧ w.cell? ⟨g, m, none⟩ = some u ∧
    ∀ e1 w1, MrkP cells[m] u Fj (kTo cells m k) w e1 w1 → MS cells e sz n (.slice (some ⟨g, 0, none⟩) n c) F0 w0 k (m + 1) w1 ∧ (∀ o, w1.cell? ⟨g, o, none⟩ = w.cell? ⟨g, o, none⟩) ∧ (∀ o, w1.frozen? ⟨g, o, none⟩ = w.frozen? ⟨g, o, none⟩) := by
  obtain ⟨F, h1, h2, h3, h4⟩ := h
  have hlt := h1.lt
  simp only [own] at h1
  rcases h1 with ⟨vs, G, ho, hr, rfl, hng⟩ | ⟨_, h0, _⟩
  rotate_left
  · have := mTo_length cells m k; rw [h0] at this; simp at this; omega
  have hgG : g ∉ G := hng g rfl
  have hG : G.Nodup := (List.nodup_append.1 h2).2.1
  obtain ⟨u, Fj, k1, k2, k3, k4, k5⟩ := owns_sub (j := m) hr (by rw [mTo_length]; exact hm) hG
  rw [mTo_get k hm] at k1
  have hgl : g < w.heap.size := (ho.lt g rfl).2
  have hgj : g ∉ Fj := fun hk => hgG (k2 g hk)
  refine ⟨u, Fj, k1, k3, hgj, ?_, fun e1 w1 hM => ?_⟩
  · have := ho.cells (g := g) rfl m u k4; rwa [add_zero'] at this
  · obtain ⟨_, ⟨Fj', o1, n1, s1⟩, m1⟩ := hM
    obtain ⟨F2, r1, r2, r3⟩ := k5 w1 _ Fj' o1 s1 n1 m1
    rw [mTo_set k hm] at r1
    refine ⟨⟨[g] ++ F2, ?_, ?_, ?_, h4.trans (m1.mono fun b hb => h3 b (List.mem_append_right _ (k2 b hb)))⟩, fun o => m1.cell hgl hgj, fun o => m1.frozen hgl hgj⟩
    · simp only [own]
      exact .inl ⟨vs, F2, ownsRow_move ho (fun b hb => m1.block b (by have : g = b := by simpa [Value.ownBlock] using hb
                                                                      omega) (by have : g = b := by simpa [Value.ownBlock] using hb
                                                                                 exact this ▸ hgj)), r1, by simp [Value.ownBlock], fun b hb => by
        have : g = b := by simpa [Value.ownBlock] using hb
        exact this ▸ fun hk => hgG (r2 g hk)⟩
    · exact nod2 (by simp) r3 (fun a ha hb => by have : a = g := by simpa using ha
                                                 exact hgG (this ▸ r2 a hb))
    · intro b hb
      refine h3 b ?_
      rcases List.mem_append.1 hb with hb | hb
      · have : b = g := by simpa using hb
        simp [Value.ownBlock, this]
      · exact List.mem_append_right _ (r2 b hb)
end
theorem own_iN (w : World) (k : IntKind) {n m : Int} (h : n = m) : own w (.i k n) (.int k m) [] := h ▸ own_i w k n
theorem own_bN (w : World) {x y : Bool} (h : x = y) : own w (.b x) (.bool y) [] := h ▸ own_b w x
theorem kTo_bd (cells : List T) (m k : Nat) : kTo cells m k ≤ k + cnts cells := by
  unfold kTo
  have := cnts_append (cells.take m) (cells.drop m)
  rw [List.take_append_drop] at this
  omega
theorem MS.form {cells : List T} {e sz n c k m : Nat} {A : Option Addr} {F0 : List Nat} {w0 w : World} (h : MS cells e sz n (.slice A n c) F0 w0 k m w) (hn : 0 < n) : ∃ g, A = some ⟨g, 0, none⟩ := by
  obtain ⟨F, h1, _⟩ := h
  obtain ⟨g, c', he, _⟩ := own_form h1 hn
  cases he; exact ⟨g, rfl⟩
/-- a cell of a marked list -/
theorem mrk_cell {cells : List T} {e sz n c g k m : Nat} {F : List Nat} {w : World} (h : own w (.l e sz n (mrks cells k)) (.slice (some ⟨g, 0, none⟩) n c) F) (hm : m < cells.length) : ∃ u Fm, own w (mrk cells[m] (kTo cells m k)) u Fm ∧ w.cell? ⟨g, m, none⟩ = some u := by
  have hm' : m < (mrks cells k).length := by rw [mrks_length]; exact hm
  obtain ⟨vs, G, hr, _, _, hc, _⟩ := own_cell h (by omega)
  have sub : ∀ {ts : List T} {us : List Value} {F : List Nat} {j : Nat}, owns w ts us F → (hj : j < ts.length) → ∃ u Fj, own w ts[j] u Fj ∧ us[j]? = some u := by
    intro ts
    induction ts with
    | nil => intro us F j _ hj; simp at hj
    | cons t ts ih =>
      intro us F j h hj
      simp only [owns] at h
      obtain ⟨v, us, F1, F2, rfl, h1, h2, rfl⟩ := h
      cases j with
      | zero => exact ⟨v, F1, h1, rfl⟩
      | succ j => obtain ⟨u, Fj, k1, k2⟩ := ih (j := j) h2 (by simpa using hj); exact ⟨u, Fj, k1, k2⟩
  obtain ⟨u, Fm, k1, k2⟩ := sub hr hm'
  rw [mrks_get k hm] at k1
  exact ⟨u, Fm, k1, hc m u k2⟩
end Go.Proofs.Ytmjfkjdfmpileaa.M
