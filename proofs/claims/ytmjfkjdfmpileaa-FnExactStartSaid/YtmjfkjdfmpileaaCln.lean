/- What slices.Clone makes: flat cells own themselves; contracts of Clone. -/
import Derived.Test.YtmjfkjdfmpileaaData
import Derived.Test.YtmjfkjdfmpileaaProg
import Derived.Test.YtmjfkjdfmpileaaPure
import Derived.Test.YtmjfkjdfmpileaaInf
set_option linter.unusedVariables false
set_option linter.unusedSimpArgs false
namespace Go.Proofs.Ytmjfkjdfmpileaa.M
open Go.RowKit
/-- no slice in it -/
def T.flat : T → Bool
  | .l _ _ _ _ => false
  | _ => true
theorem owns_flat_of_reps {w : World} : ∀ {ts : List T} {vs : List Value}, reps w ts vs → (∀ t ∈ ts, t.flat = true) → owns w ts vs []
  | [], vs, h, _ => by simp only [reps] at h; subst h; simp [owns]
  | t :: ts, vs, h, hf => by
    simp only [reps] at h
    obtain ⟨v, us, rfl, h1, h2⟩ := h
    have k2 := owns_flat_of_reps h2 (fun t ht => hf t (List.mem_cons_of_mem _ ht))
    have ht := hf t (List.mem_cons_self ..)
    simp only [owns]
    refine ⟨v, us, [], [], rfl, ?_, k2, rfl⟩
    cases t with
    | i k n => simp only [rep] at h1; subst h1; exact own_i _ _ _
    | b x => simp only [rep] at h1; subst h1; exact own_b _ _
    | s x => simp only [rep] at h1; subst h1; exact own_s _ _
    | l e sz n c => simp [T.flat] at ht
theorem reps_one' {w : World} : ∀ {ts : List T} {vs : List Value}, reps w ts vs → ∀ u ∈ vs, u.oneCell' = true
  | [], _, h, u, hu => by simp only [reps] at h; subst h; cases hu
  | t :: ts, _, h, u, hu => by
    simp only [reps] at h
    obtain ⟨v, us, rfl, h1, h2⟩ := h
    rcases List.mem_cons.1 hu with rfl | hu
    · cases t with
      | i k n => simp only [rep] at h1; subst h1; rfl
      | b x => simp only [rep] at h1; subst h1; rfl
      | s x => simp only [rep] at h1; subst h1; rfl
      | l e sz n c =>
        simp only [rep] at h1
        obtain ⟨_, _, A, c, vs, rfl, _⟩ := h1
        rfl
    · exact reps_one' h2 u hu
/-- a new slice of no element -/
theorem own_empty (w : World) (e sz : Nat) : own (w.alloc (.cells #[] e)) (.l e sz 0 []) (.slice (some ⟨w.heap.size, 0, none⟩) 0 0) [w.heap.size] := by
  simp only [own]
  refine .inl ⟨[], [], World.ownsRow_lit w #[] 0 (Nat.zero_le _) (Nat.zero_le _) (by simp), by simp [owns], by simp [Value.ownBlock], fun k _ hk => by cases hk⟩
theorem below_gr {w W W' : World} (h : Below w.heap.size w W) {row : Option Nat} (hg : W.grownBy W' row) (hr : ∀ k, row = some k → w.heap.size ≤ k) : Below w.heap.size w W' :=
  ⟨hg.os.trans h.os, hg.tape.trans h.tape, hg.output.trans h.output, Nat.le_trans h.size hg.size, fun k hk => (hg.block k (Nat.lt_of_lt_of_le hk h.size) (fun e => absurd (hr k e.symm) (by omega))).trans (h.block k hk)⟩
section
variable {Pg : Program} {w : World} {ops : Array Oper} {rest : List Oper} {o : Oper} {a : Act} {Q : Exit → Act → World → Prop}
/-- append onto a row of the call's own, whatever its cells hold -/
theorem appR (hgd : o.guard = none) {s x : Operand} {t : TypeId} (ho : o.op = .call { callee := .builtin .append, args := #[s, x], argTypes := #[t, t] }) {e sz by_ : Nat} {z : Value} (ht : Pg.underlying t = some (.slice e))
    (hi : (Pg.info? e).map (fun i => (i.zero, i.size, i.bytes)) = some (some z, sz, by_)) (hzs : z.cells.size = sz) (hsz : 0 < sz) {v : Value} (hs : a.eval s = v) {n : Nat} {vs : List Value} (hown : w.ownsRow 0 e sz v n vs)
    {ad : Addr} {m c : Nat} (hx : a.eval x = .slice (some ad) m c) {us : List Value} (hnews : ∀ j u, us[j]? = some u → w.cell? (ad.add j) = some u) (hl : us.length = m * sz) (h1 : ∀ u ∈ us, u.oneCell' = true)
    (h63 : n + m ≤ maxLen) (hbytes : (n + m) * by_ ≤ 140737488355328)
    (h : ∀ v' w', w'.ownsRow 0 e sz v' (n + m) (vs ++ us) → w.grownBy w' v.ownBlock → (v'.ownBlock = v.ownBlock ∨ v'.ownBlock = some w.heap.size) → wpList Pg ops Q rest (a.put o.dst v') w') :
    wpList Pg ops Q (o :: rest) a w := by
  obtain ⟨i, h2, h3, h4, h5⟩ := info_parts hi
  subst h4
  subst h5
  refine wpList_plain hgd fun K hK => ?_
  obtain ⟨v', w', hr, k1, k2, _, k4⟩ := run_append_own_at (P := Pg) w 0 t o.type e i z i.size i.bytes ht h2 h3 rfl rfl hzs hsz v n vs hown ad m c us hl hnews h1 h63 hbytes (Nat.zero_le _)
  unfold Oper.wp execOp
  simp only [ho, resolve, invoke, builtin, Sem.run_bind, Sem.run_pure, Result.andThen_ok, List.map_toArray, List.map_cons, List.map_nil, hs, hx, hr]
  exact hK _ _ (h v' w' k1 k2 k4)
end
/-- a row of the call's own, with these cells -/
def RowV (w w' : World) (e sz n : Nat) (vs : List Value) (v : Value) : Prop := w'.ownsRow 0 e sz v n vs ∧ ∀ k, v.ownBlock = some k → w.heap.size ≤ k
set_option maxRecDepth 100000 in
set_option maxHeartbeats 1000000 in
theorem CloneStep_calls {tS tC : Nat} (xs : List Step) (v : Value) (w W0 : World) (hW0 : Below W0.heap.size W0 w) (h : rep W0 (StepsT tS tC xs) v) (hn : xs.length * 96 ≤ 140737488355328) :
    Calls Try.prog 74 #[v] w fun e w' => ∃ v' vs, e = .returned v' ∧ reps W0 (xs.flatMap (Step.c tC)) vs ∧ RowV w w' 108 8 xs.length vs v' ∧ Below w.heap.size w w' := by
  simp only [StepsT, tl, rep] at h
  obtain ⟨hl, h1, A, c, vs, rfl, hc, hr, hcl⟩ := h
  cases A with
  | none =>
    obtain rfl : xs = [] := by
      cases xs with
      | nil => rfl
      | cons x xs => obtain ⟨a, ha, _⟩ := hcl (by simp); cases ha
    have he : ∀ w : World, (binOp .eql 42 (.slice none 0 c) (.slice none 0 0)).run Try.prog w = .ok (.bool true) w := fun _ => rfl
    go_enter Try.func74, Try.ntmps74
    go_wp2
    go_ret
    refine ⟨_, vs, rfl, hr, ⟨?_, fun k hk => by cases hk⟩, Below.refl _ _⟩
    have : vs = [] := by simp [reps] at hr; exact hr
    subst this
    exact World.ownsRow_nil _ _ _ _
  | some a =>
    have he : ∀ w : World, (binOp .eql 42 (.slice (some a) xs.length c) (.slice none 0 0)).run Try.prog w = .ok (.bool false) w := fun _ => rfl
    have hvs : vs.length = xs.length * 8 := by rw [reps_length hr, hl]
    have hbel : Below w.heap.size w (w.alloc (.cells #[] 108)) := below_al (Below.refl _ _) _
    have hone := reps_one' hr
    have how : (w.alloc (.cells #[] 108)).ownsRow 0 108 8 (.slice (some ⟨w.heap.size, 0, none⟩) 0 0) 0 [] := World.ownsRow_lit w #[] 0 (Nat.zero_le _) (Nat.zero_le _) (by simp)
    have hcl' : ∀ j u, vs[j]? = some u → (w.alloc (.cells #[] 108)).cell? (a.add j) = some u := fun j u hj => by
      have h0 : 0 < xs.length := by
        rcases Nat.eq_zero_or_pos xs.length with h | h
        · rw [h] at hvs; rw [List.eq_nil_of_length_eq_zero (l := vs) (by simpa using hvs)] at hj; simp at hj
        · exact h
      obtain ⟨a', ha, h⟩ := hcl h0
      cases ha
      exact cell_below hbel (cell_below hW0 (h j u hj))
    have hr' := Asd.mk hr
    clear hr hcl
    go_enter Try.func74, Try.ntmps74
    go_wp2_with (first | (at_builtin; refine appR rfl rfl Try.underlying42 info_Step rfl (by decide) rfl how rfl hcl' hvs hone (by simp [maxLen]; omega) (by omega) ?_))
    intro v' w' ho hg hk
    have hb : Below w.heap.size w w' := below_gr hbel hg (fun k hk => by simp [Value.ownBlock] at hk; omega)
    replace ho := Asd.mk ho
    replace hg := Asd.mk hg
    replace hk := Asd.mk hk
    go_wp2
    go_ret
    refine ⟨_, vs, rfl, hr'.out, ⟨?_, ?_⟩, hb⟩
    · have := ho.out
      simpa using this
    · intro k h
      have h2 := hk.out
      simp at h
      rw [h] at h2
      simp [Value.ownBlock] at h2
      omega
theorem strC_flat (xs : List ByteArray) : ∀ t ∈ xs.flatMap strC, t.flat = true := fun t ht => by obtain ⟨x, _, hx⟩ := List.mem_flatMap.1 ht; simp [strC] at hx; subst hx; rfl
theorem Case.flat (xs : List Case) : ∀ t ∈ xs.flatMap Case.c, t.flat = true := fun t ht => by
  obtain ⟨x, _, hx⟩ := List.mem_flatMap.1 ht
  simp [Case.c] at hx
  rcases hx with rfl | rfl <;> rfl
set_option maxRecDepth 100000 in
set_option maxHeartbeats 1000000 in
theorem CloneStr_calls {t : Nat} (xs : List ByteArray) (v : Value) (w : World) (h : rep w (strsT t xs) v) (hn : xs.length * 16 ≤ 140737488355328) :
    Calls Try.prog 75 #[v] w (MadeV w (strsT 9 xs)) := by
  have h0 := Asd.mk h
  simp only [strsT, CasesT, tl, rep] at h
  obtain ⟨hl, h1, A, c, vs, rfl, hc, hr, hcl⟩ := h
  cases A with
  | none =>
    obtain rfl : xs = [] := by
      cases xs with
      | nil => rfl
      | cons x xs => obtain ⟨a, ha, _⟩ := hcl (by simp); cases ha
    have he : ∀ w : World, (binOp .eql 56 (.slice none 0 c) (.slice none 0 0)).run Try.prog w = .ok (.bool true) w := fun _ => rfl
    go_enter Try.func75, Try.ntmps75
    go_wp2
    go_ret
    exact ⟨_, rfl, ⟨[], own_nil _ _ _, List.nodup_nil, fun k hk => by cases hk⟩, Below.refl _ _⟩
  | some a =>
    have he : ∀ w : World, (binOp .eql 56 (.slice (some a) xs.length c) (.slice none 0 0)).run Try.prog w = .ok (.bool false) w := fun _ => rfl
    have hvs : vs.length = xs.length * 1 := by rw [reps_length hr, hl]
    have hbel : Below w.heap.size w (w.alloc (.cells #[] 9)) := below_al (Below.refl _ _) _
    have hu := owns_flat_of_reps (reps_below hbel _ _ hr) (strC_flat xs)
    have how := own_empty w 9 1
    have hcl' : ∀ j u, 0 < xs.length → vs[j]? = some u → (w.alloc (.cells #[] 9)).cell? (a.add j) = some u := fun j u h0 hj => by
      obtain ⟨a', ha, h⟩ := hcl h0
      cases ha
      exact cell_below hbel (h j u hj)
    clear h0 hr hcl
    go_enter Try.func75, Try.ntmps75
    go_wp2_with (first | (at_builtin; refine app rfl rfl Try.underlying56 info_str rfl (by decide) rfl how rfl (fun h => by cases h) (fun h0 => ⟨a, rfl, fun j u hj => hcl' j u h0 hj⟩) hvs hu (fun k hk hk' => by cases hk') (by simp [maxLen]; omega) (by omega) ?_))
    intro v' w' F2 ho hF hN hg
    have hb : Below w.heap.size w w' := below_gr hbel hg (fun k hk => by simp [Value.ownBlock] at hk; omega)
    replace ho := Asd.mk ho
    replace hg := Asd.mk hg
    go_wp2
    go_ret
    refine ⟨_, rfl, ⟨F2, ?_, ?_, ?_⟩, hb⟩
    · have := ho.out
      simpa [strsT, CasesT, tl] using this
    · first | exact hN | exact hN (by simp) (by simp) (by simp)
    · intro k hk
      have := hF k hk
      (try simp at this)
      omega
set_option maxRecDepth 100000 in
set_option maxHeartbeats 1000000 in
theorem CloneCase_calls {t : Nat} (xs : List Case) (v : Value) (w : World) (h : rep w (CasesT t xs) v) (hn : xs.length * 24 ≤ 140737488355328) :
    Calls Try.prog 76 #[v] w (MadeV w (CasesT 112 xs)) := by
  have h0 := Asd.mk h
  simp only [strsT, CasesT, tl, rep] at h
  obtain ⟨hl, h1, A, c, vs, rfl, hc, hr, hcl⟩ := h
  cases A with
  | none =>
    obtain rfl : xs = [] := by
      cases xs with
      | nil => rfl
      | cons x xs => obtain ⟨a, ha, _⟩ := hcl (by simp); cases ha
    have he : ∀ w : World, (binOp .eql 106 (.slice none 0 c) (.slice none 0 0)).run Try.prog w = .ok (.bool true) w := fun _ => rfl
    go_enter Try.func76, Try.ntmps76
    go_wp2
    go_ret
    exact ⟨_, rfl, ⟨[], own_nil _ _ _, List.nodup_nil, fun k hk => by cases hk⟩, Below.refl _ _⟩
  | some a =>
    have he : ∀ w : World, (binOp .eql 106 (.slice (some a) xs.length c) (.slice none 0 0)).run Try.prog w = .ok (.bool false) w := fun _ => rfl
    have hvs : vs.length = xs.length * 2 := by rw [reps_length hr, hl]
    have hbel : Below w.heap.size w (w.alloc (.cells #[] 112)) := below_al (Below.refl _ _) _
    have hu := owns_flat_of_reps (reps_below hbel _ _ hr) (Case.flat xs)
    have how := own_empty w 112 2
    have hcl' : ∀ j u, 0 < xs.length → vs[j]? = some u → (w.alloc (.cells #[] 112)).cell? (a.add j) = some u := fun j u h0 hj => by
      obtain ⟨a', ha, h⟩ := hcl h0
      cases ha
      exact cell_below hbel (h j u hj)
    clear h0 hr hcl
    go_enter Try.func76, Try.ntmps76
    go_wp2_with (first | (at_builtin; refine app rfl rfl Try.underlying106 info_Case rfl (by decide) rfl how rfl (fun h => by cases h) (fun h0 => ⟨a, rfl, fun j u hj => hcl' j u h0 hj⟩) hvs hu (fun k hk hk' => by cases hk') (by simp [maxLen]; omega) (by omega) ?_))
    intro v' w' F2 ho hF hN hg
    have hb : Below w.heap.size w w' := below_gr hbel hg (fun k hk => by simp [Value.ownBlock] at hk; omega)
    replace ho := Asd.mk ho
    replace hg := Asd.mk hg
    go_wp2
    go_ret
    refine ⟨_, rfl, ⟨F2, ?_, ?_, ?_⟩, hb⟩
    · have := ho.out
      simpa [strsT, CasesT, tl] using this
    · first | exact hN | exact hN (by simp) (by simp) (by simp)
    · intro k hk
      have := hF k hk
      (try simp at this)
      omega
end Go.Proofs.Ytmjfkjdfmpileaa.M
