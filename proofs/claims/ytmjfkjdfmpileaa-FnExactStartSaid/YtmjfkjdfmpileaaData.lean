/- The structs of kilnweb as Lean structures, and their cells as trees. -/
import Derived.Test.YtmjfkjdfmpileaaMem
set_option linter.unusedVariables false
set_option linter.unusedSimpArgs false
namespace Go.Proofs.Ytmjfkjdfmpileaa.M
open Go.RowKit
structure Case where
  Text : ByteArray
  Goto : Int
  deriving DecidableEq
def zCase : Case := ⟨⟨#[]⟩, 0⟩
def Case.c (x : Case) : List T := [.s x.Text, .i .i64 x.Goto]
def CasesT (tCase : Nat) (xs : List Case) : T := tl tCase 2 Case.c xs
theorem Case.ropen {w : World} {x : Case} {vs : List Value} (h : reps w (Case.c x) vs) : vs = [.string x.Text, .int .i64 x.Goto] := by
  simp only [Case.c, reps, rep] at h
  obtain ⟨v0, _, rfl, h0, ⟨v1, _, rfl, h1, rfl⟩⟩ := h
  subst h0 h1
  exact rfl
theorem Case.rmk {w : World} (x : Case) : reps w (Case.c x) [.string x.Text, .int .i64 x.Goto] := by
  simp only [Case.c, reps]
  exact ⟨_, _, rfl, by simp only [rep], ⟨_, _, rfl, by simp only [rep], rfl⟩⟩
theorem Case.oopen {w : World} {x : Case} {vs : List Value} {F : List Nat} (h : owns w (Case.c x) vs F) : vs = [.string x.Text, .int .i64 x.Goto] ∧ F = [] := by
  simp only [Case.c, owns] at h
  obtain ⟨v0, _, F0, _, rfl, h0, ⟨v1, _, F1, _, rfl, h1, ⟨rfl, rfl⟩, rfl⟩, rfl⟩ := h
  simp only [own] at h0 h1
  obtain ⟨rfl, rfl⟩ := h0
  obtain ⟨rfl, rfl⟩ := h1
  exact ⟨rfl, by simp⟩
theorem Case.omk {w : World} (x : Case) : owns w (Case.c x) [.string x.Text, .int .i64 x.Goto] ([]) := by
  simp only [Case.c, owns]
  exact ⟨_, _, [], _, rfl, own_s _ _, ⟨_, _, [], _, rfl, own_i _ _ _, ⟨rfl, rfl⟩, rfl⟩, rfl⟩
theorem Case.elem {tCase : Nat} {w : World} {xs : List Case} {v : Value} (h : rep w (CasesT tCase xs) v) {i : Nat} (hi : i < xs.length) : ∃ a c, v = .slice (some a) xs.length c ∧ w.cell? (a.add (i * 2)) = some (.string xs[i].Text) ∧ w.cell? ⟨(a.add (i * 2)).block, (a.add (i * 2)).off + 1, none⟩ = some (.int .i64 xs[i].Goto) ∧ reps w (Case.c xs[i]) [.string xs[i].Text, .int .i64 xs[i].Goto] := by
  obtain ⟨a, c, us, rfl, _, _, hr, hc⟩ := rep_elem h (fun _ => rfl) hi
  have hr0 := hr
  obtain rfl := Case.ropen hr
  exact ⟨a, c, rfl, hc 0 _ rfl, by rw [← add_fld _ _ 1 (by omega)]; exact hc 1 _ rfl, hr0⟩
structure Step where
  Asks : List ByteArray
  On : Int
  Cases : List Case
  Else : Int
  Fall : Int
  End : Bool
  Bad : Bool
  Give : ByteArray
  deriving DecidableEq
def zStep : Step := ⟨[], 0, [], 0, 0, false, false, ⟨#[]⟩⟩
def Step.c (tCase : Nat) (x : Step) : List T := [strsT 9 x.Asks, .i .i64 x.On, CasesT tCase x.Cases, .i .i64 x.Else, .i .i64 x.Fall, .b x.End, .b x.Bad, .s x.Give]
def StepsT (tStep tCase : Nat) (xs : List Step) : T := tl tStep 8 (Step.c tCase) xs
theorem Step.ropen {tCase : Nat} {w : World} {x : Step} {vs : List Value} (h : reps w (Step.c tCase x) vs) : ∃ v0 v2, vs = [v0, .int .i64 x.On, v2, .int .i64 x.Else, .int .i64 x.Fall, .bool x.End, .bool x.Bad, .string x.Give] ∧ rep w (strsT 9 x.Asks) v0 ∧ rep w (CasesT tCase x.Cases) v2 := by
  simp only [Step.c, reps] at h
  obtain ⟨v0, _, rfl, h0, ⟨v1, _, rfl, h1, ⟨v2, _, rfl, h2, ⟨v3, _, rfl, h3, ⟨v4, _, rfl, h4, ⟨v5, _, rfl, h5, ⟨v6, _, rfl, h6, ⟨v7, _, rfl, h7, rfl⟩⟩⟩⟩⟩⟩⟩⟩ := h
  simp only [rep] at h1 h3 h4 h5 h6 h7
  subst h1 h3 h4 h5 h6 h7
  exact ⟨v0, v2, rfl, h0, h2⟩
theorem Step.rmk {tCase : Nat} {w : World} (x : Step) {v0 : Value} (h0 : rep w (strsT 9 x.Asks) v0) {v2 : Value} (h2 : rep w (CasesT tCase x.Cases) v2) : reps w (Step.c tCase x) [v0, .int .i64 x.On, v2, .int .i64 x.Else, .int .i64 x.Fall, .bool x.End, .bool x.Bad, .string x.Give] := by
  simp only [Step.c, reps]
  exact ⟨_, _, rfl, h0, ⟨_, _, rfl, by simp only [rep], ⟨_, _, rfl, h2, ⟨_, _, rfl, by simp only [rep], ⟨_, _, rfl, by simp only [rep], ⟨_, _, rfl, by simp only [rep], ⟨_, _, rfl, by simp only [rep], ⟨_, _, rfl, by simp only [rep], rfl⟩⟩⟩⟩⟩⟩⟩⟩
theorem Step.oopen {tCase : Nat} {w : World} {x : Step} {vs : List Value} {F : List Nat} (h : owns w (Step.c tCase x) vs F) : ∃ v0 F0 v2 F2, vs = [v0, .int .i64 x.On, v2, .int .i64 x.Else, .int .i64 x.Fall, .bool x.End, .bool x.Bad, .string x.Give] ∧ own w (strsT 9 x.Asks) v0 F0 ∧ own w (CasesT tCase x.Cases) v2 F2 ∧ F = F0 ++ F2 := by
  simp only [Step.c, owns] at h
  obtain ⟨v0, _, F0, _, rfl, h0, ⟨v1, _, F1, _, rfl, h1, ⟨v2, _, F2, _, rfl, h2, ⟨v3, _, F3, _, rfl, h3, ⟨v4, _, F4, _, rfl, h4, ⟨v5, _, F5, _, rfl, h5, ⟨v6, _, F6, _, rfl, h6, ⟨v7, _, F7, _, rfl, h7, ⟨rfl, rfl⟩, rfl⟩, rfl⟩, rfl⟩, rfl⟩, rfl⟩, rfl⟩, rfl⟩, rfl⟩ := h
  simp only [own] at h1 h3 h4 h5 h6 h7
  obtain ⟨rfl, rfl⟩ := h1
  obtain ⟨rfl, rfl⟩ := h3
  obtain ⟨rfl, rfl⟩ := h4
  obtain ⟨rfl, rfl⟩ := h5
  obtain ⟨rfl, rfl⟩ := h6
  obtain ⟨rfl, rfl⟩ := h7
  exact ⟨v0, F0, v2, F2, rfl, h0, h2, by simp⟩
theorem Step.omk {tCase : Nat} {w : World} (x : Step) {v0 : Value} {F0 : List Nat} (h0 : own w (strsT 9 x.Asks) v0 F0) {v2 : Value} {F2 : List Nat} (h2 : own w (CasesT tCase x.Cases) v2 F2) : owns w (Step.c tCase x) [v0, .int .i64 x.On, v2, .int .i64 x.Else, .int .i64 x.Fall, .bool x.End, .bool x.Bad, .string x.Give] (F0 ++ F2) := by
  simp only [Step.c, owns]
  refine ⟨_, _, F0, F2, rfl, h0, ⟨_, _, [], F2, rfl, own_i _ _ _, ⟨_, _, F2, [], rfl, h2, ⟨_, _, [], [], rfl, own_i _ _ _, ⟨_, _, [], [], rfl, own_i _ _ _, ⟨_, _, [], [], rfl, own_b _ _, ⟨_, _, [], [], rfl, own_b _ _, ⟨_, _, [], [], rfl, own_s _ _, ⟨rfl, rfl⟩, by simp⟩, by simp⟩, by simp⟩, by simp⟩, by simp⟩, by simp⟩, by simp⟩, by simp⟩
theorem Step.elem {tStep tCase : Nat} {w : World} {xs : List Step} {v : Value} (h : rep w (StepsT tStep tCase xs) v) {i : Nat} (hi : i < xs.length) : ∃ a c v0 v2, v = .slice (some a) xs.length c ∧ w.cell? (a.add (i * 8)) = some (v0) ∧ w.cell? ⟨(a.add (i * 8)).block, (a.add (i * 8)).off + 1, none⟩ = some (.int .i64 xs[i].On) ∧ w.cell? ⟨(a.add (i * 8)).block, (a.add (i * 8)).off + 2, none⟩ = some (v2) ∧ w.cell? ⟨(a.add (i * 8)).block, (a.add (i * 8)).off + 3, none⟩ = some (.int .i64 xs[i].Else) ∧ w.cell? ⟨(a.add (i * 8)).block, (a.add (i * 8)).off + 4, none⟩ = some (.int .i64 xs[i].Fall) ∧ w.cell? ⟨(a.add (i * 8)).block, (a.add (i * 8)).off + 5, none⟩ = some (.bool xs[i].End) ∧ w.cell? ⟨(a.add (i * 8)).block, (a.add (i * 8)).off + 6, none⟩ = some (.bool xs[i].Bad) ∧ w.cell? ⟨(a.add (i * 8)).block, (a.add (i * 8)).off + 7, none⟩ = some (.string xs[i].Give) ∧ rep w (strsT 9 xs[i].Asks) v0 ∧ rep w (CasesT tCase xs[i].Cases) v2 ∧ reps w (Step.c tCase xs[i]) [v0, .int .i64 xs[i].On, v2, .int .i64 xs[i].Else, .int .i64 xs[i].Fall, .bool xs[i].End, .bool xs[i].Bad, .string xs[i].Give] := by
  obtain ⟨a, c, us, rfl, _, _, hr, hc⟩ := rep_elem h (fun _ => rfl) hi
  have hr0 := hr
  obtain ⟨v0, v2, rfl, h0, h2⟩ := Step.ropen hr
  exact ⟨a, c, v0, v2, rfl, hc 0 _ rfl, by rw [← add_fld _ _ 1 (by omega)]; exact hc 1 _ rfl, by rw [← add_fld _ _ 2 (by omega)]; exact hc 2 _ rfl, by rw [← add_fld _ _ 3 (by omega)]; exact hc 3 _ rfl, by rw [← add_fld _ _ 4 (by omega)]; exact hc 4 _ rfl, by rw [← add_fld _ _ 5 (by omega)]; exact hc 5 _ rfl, by rw [← add_fld _ _ 6 (by omega)]; exact hc 6 _ rfl, by rw [← add_fld _ _ 7 (by omega)]; exact hc 7 _ rfl, h0, h2, hr0⟩
structure Action where
  Cost : Int
  Steps : List Step
  deriving DecidableEq
def zAction : Action := ⟨0, []⟩
def Action.c (tStep tCase : Nat) (x : Action) : List T := [.i .i64 x.Cost, StepsT tStep tCase x.Steps]
def ActionsT (tAction tStep tCase : Nat) (xs : List Action) : T := tl tAction 2 (Action.c tStep tCase) xs
theorem Action.ropen {tStep tCase : Nat} {w : World} {x : Action} {vs : List Value} (h : reps w (Action.c tStep tCase x) vs) : ∃ v1, vs = [.int .i64 x.Cost, v1] ∧ rep w (StepsT tStep tCase x.Steps) v1 := by
  simp only [Action.c, reps] at h
  obtain ⟨v0, _, rfl, h0, ⟨v1, _, rfl, h1, rfl⟩⟩ := h
  simp only [rep] at h0
  subst h0
  exact ⟨v1, rfl, h1⟩
theorem Action.rmk {tStep tCase : Nat} {w : World} (x : Action) {v1 : Value} (h1 : rep w (StepsT tStep tCase x.Steps) v1) : reps w (Action.c tStep tCase x) [.int .i64 x.Cost, v1] := by
  simp only [Action.c, reps]
  exact ⟨_, _, rfl, by simp only [rep], ⟨_, _, rfl, h1, rfl⟩⟩
theorem Action.oopen {tStep tCase : Nat} {w : World} {x : Action} {vs : List Value} {F : List Nat} (h : owns w (Action.c tStep tCase x) vs F) : ∃ v1 F1, vs = [.int .i64 x.Cost, v1] ∧ own w (StepsT tStep tCase x.Steps) v1 F1 ∧ F = F1 := by
  simp only [Action.c, owns] at h
  obtain ⟨v0, _, F0, _, rfl, h0, ⟨v1, _, F1, _, rfl, h1, ⟨rfl, rfl⟩, rfl⟩, rfl⟩ := h
  simp only [own] at h0
  obtain ⟨rfl, rfl⟩ := h0
  exact ⟨v1, F1, rfl, h1, by simp⟩
theorem Action.omk {tStep tCase : Nat} {w : World} (x : Action) {v1 : Value} {F1 : List Nat} (h1 : own w (StepsT tStep tCase x.Steps) v1 F1) : owns w (Action.c tStep tCase x) [.int .i64 x.Cost, v1] (F1) := by
  simp only [Action.c, owns]
  refine ⟨_, _, [], F1, rfl, own_i _ _ _, ⟨_, _, F1, [], rfl, h1, ⟨rfl, rfl⟩, by simp⟩, by simp⟩
theorem Action.elem {tAction tStep tCase : Nat} {w : World} {xs : List Action} {v : Value} (h : rep w (ActionsT tAction tStep tCase xs) v) {i : Nat} (hi : i < xs.length) : ∃ a c v1, v = .slice (some a) xs.length c ∧ w.cell? (a.add (i * 2)) = some (.int .i64 xs[i].Cost) ∧ w.cell? ⟨(a.add (i * 2)).block, (a.add (i * 2)).off + 1, none⟩ = some (v1) ∧ rep w (StepsT tStep tCase xs[i].Steps) v1 ∧ reps w (Action.c tStep tCase xs[i]) [.int .i64 xs[i].Cost, v1] := by
  obtain ⟨a, c, us, rfl, _, _, hr, hc⟩ := rep_elem h (fun _ => rfl) hi
  have hr0 := hr
  obtain ⟨v1, rfl, h1⟩ := Action.ropen hr
  exact ⟨a, c, v1, rfl, hc 0 _ rfl, by rw [← add_fld _ _ 1 (by omega)]; exact hc 1 _ rfl, h1, hr0⟩
structure Node where
  Name : ByteArray
  Action : Action
  deriving DecidableEq
def zNode : Node := ⟨⟨#[]⟩, zAction⟩
def Node.c (tStep tCase : Nat) (x : Node) : List T := [.s x.Name, .i .i64 x.Action.Cost, StepsT tStep tCase x.Action.Steps]
def NodesT (tNode tStep tCase : Nat) (xs : List Node) : T := tl tNode 3 (Node.c tStep tCase) xs
theorem Node.ropen {tStep tCase : Nat} {w : World} {x : Node} {vs : List Value} (h : reps w (Node.c tStep tCase x) vs) : ∃ v2, vs = [.string x.Name, .int .i64 x.Action.Cost, v2] ∧ rep w (StepsT tStep tCase x.Action.Steps) v2 := by
  simp only [Node.c, reps] at h
  obtain ⟨v0, _, rfl, h0, ⟨v1, _, rfl, h1, ⟨v2, _, rfl, h2, rfl⟩⟩⟩ := h
  simp only [rep] at h0 h1
  subst h0 h1
  exact ⟨v2, rfl, h2⟩
theorem Node.rmk {tStep tCase : Nat} {w : World} (x : Node) {v2 : Value} (h2 : rep w (StepsT tStep tCase x.Action.Steps) v2) : reps w (Node.c tStep tCase x) [.string x.Name, .int .i64 x.Action.Cost, v2] := by
  simp only [Node.c, reps]
  exact ⟨_, _, rfl, by simp only [rep], ⟨_, _, rfl, by simp only [rep], ⟨_, _, rfl, h2, rfl⟩⟩⟩
theorem Node.oopen {tStep tCase : Nat} {w : World} {x : Node} {vs : List Value} {F : List Nat} (h : owns w (Node.c tStep tCase x) vs F) : ∃ v2 F2, vs = [.string x.Name, .int .i64 x.Action.Cost, v2] ∧ own w (StepsT tStep tCase x.Action.Steps) v2 F2 ∧ F = F2 := by
  simp only [Node.c, owns] at h
  obtain ⟨v0, _, F0, _, rfl, h0, ⟨v1, _, F1, _, rfl, h1, ⟨v2, _, F2, _, rfl, h2, ⟨rfl, rfl⟩, rfl⟩, rfl⟩, rfl⟩ := h
  simp only [own] at h0 h1
  obtain ⟨rfl, rfl⟩ := h0
  obtain ⟨rfl, rfl⟩ := h1
  exact ⟨v2, F2, rfl, h2, by simp⟩
theorem Node.omk {tStep tCase : Nat} {w : World} (x : Node) {v2 : Value} {F2 : List Nat} (h2 : own w (StepsT tStep tCase x.Action.Steps) v2 F2) : owns w (Node.c tStep tCase x) [.string x.Name, .int .i64 x.Action.Cost, v2] (F2) := by
  simp only [Node.c, owns]
  refine ⟨_, _, [], F2, rfl, own_s _ _, ⟨_, _, [], F2, rfl, own_i _ _ _, ⟨_, _, F2, [], rfl, h2, ⟨rfl, rfl⟩, by simp⟩, by simp⟩, by simp⟩
theorem Node.elem {tNode tStep tCase : Nat} {w : World} {xs : List Node} {v : Value} (h : rep w (NodesT tNode tStep tCase xs) v) {i : Nat} (hi : i < xs.length) : ∃ a c v2, v = .slice (some a) xs.length c ∧ w.cell? (a.add (i * 3)) = some (.string xs[i].Name) ∧ w.cell? ⟨(a.add (i * 3)).block, (a.add (i * 3)).off + 1, none⟩ = some (.int .i64 xs[i].Action.Cost) ∧ w.cell? ⟨(a.add (i * 3)).block, (a.add (i * 3)).off + 2, none⟩ = some (v2) ∧ rep w (StepsT tStep tCase xs[i].Action.Steps) v2 ∧ reps w (Node.c tStep tCase xs[i]) [.string xs[i].Name, .int .i64 xs[i].Action.Cost, v2] := by
  obtain ⟨a, c, us, rfl, _, _, hr, hc⟩ := rep_elem h (fun _ => rfl) hi
  have hr0 := hr
  obtain ⟨v2, rfl, h2⟩ := Node.ropen hr
  exact ⟨a, c, v2, rfl, hc 0 _ rfl, by rw [← add_fld _ _ 1 (by omega)]; exact hc 1 _ rfl, by rw [← add_fld _ _ 2 (by omega)]; exact hc 2 _ rfl, h2, hr0⟩
structure Web where
  Nodes : List Node
  deriving DecidableEq
def zWeb : Web := ⟨[]⟩
def Web.c (tNode tStep tCase : Nat) (x : Web) : List T := [NodesT tNode tStep tCase x.Nodes]
def WebsT (tWeb tNode tStep tCase : Nat) (xs : List Web) : T := tl tWeb 1 (Web.c tNode tStep tCase) xs
theorem Web.ropen {tNode tStep tCase : Nat} {w : World} {x : Web} {vs : List Value} (h : reps w (Web.c tNode tStep tCase x) vs) : ∃ v0, vs = [v0] ∧ rep w (NodesT tNode tStep tCase x.Nodes) v0 := by
  simp only [Web.c, reps] at h
  obtain ⟨v0, _, rfl, h0, rfl⟩ := h
  exact ⟨v0, rfl, h0⟩
theorem Web.rmk {tNode tStep tCase : Nat} {w : World} (x : Web) {v0 : Value} (h0 : rep w (NodesT tNode tStep tCase x.Nodes) v0) : reps w (Web.c tNode tStep tCase x) [v0] := by
  simp only [Web.c, reps]
  exact ⟨_, _, rfl, h0, rfl⟩
theorem Web.oopen {tNode tStep tCase : Nat} {w : World} {x : Web} {vs : List Value} {F : List Nat} (h : owns w (Web.c tNode tStep tCase x) vs F) : ∃ v0 F0, vs = [v0] ∧ own w (NodesT tNode tStep tCase x.Nodes) v0 F0 ∧ F = F0 := by
  simp only [Web.c, owns] at h
  obtain ⟨v0, _, F0, _, rfl, h0, ⟨rfl, rfl⟩, rfl⟩ := h
  exact ⟨v0, F0, rfl, h0, by simp⟩
theorem Web.omk {tNode tStep tCase : Nat} {w : World} (x : Web) {v0 : Value} {F0 : List Nat} (h0 : own w (NodesT tNode tStep tCase x.Nodes) v0 F0) : owns w (Web.c tNode tStep tCase x) [v0] (F0) := by
  simp only [Web.c, owns]
  refine ⟨_, _, F0, [], rfl, h0, ⟨rfl, rfl⟩, by simp⟩
theorem Web.elem {tWeb tNode tStep tCase : Nat} {w : World} {xs : List Web} {v : Value} (h : rep w (WebsT tWeb tNode tStep tCase xs) v) {i : Nat} (hi : i < xs.length) : ∃ a c v0, v = .slice (some a) xs.length c ∧ w.cell? (a.add i) = some (v0) ∧ rep w (NodesT tNode tStep tCase xs[i].Nodes) v0 ∧ reps w (Web.c tNode tStep tCase xs[i]) [v0] := by
  obtain ⟨a, c, us, rfl, _, _, hr, hc⟩ := rep_elem h (fun _ => rfl) hi
  have hr0 := hr
  obtain ⟨v0, rfl, h0⟩ := Web.ropen hr
  exact ⟨a, c, v0, rfl, by have := hc 0 _ rfl; rwa [Nat.mul_one, Nat.add_zero] at this, h0, hr0⟩
structure Answer where
  Fail : Bool
  Text : ByteArray
  deriving DecidableEq
def zAnswer : Answer := ⟨false, ⟨#[]⟩⟩
def Answer.c (x : Answer) : List T := [.b x.Fail, .s x.Text]
def AnswersT (tAnswer : Nat) (xs : List Answer) : T := tl tAnswer 2 Answer.c xs
theorem Answer.ropen {w : World} {x : Answer} {vs : List Value} (h : reps w (Answer.c x) vs) : vs = [.bool x.Fail, .string x.Text] := by
  simp only [Answer.c, reps, rep] at h
  obtain ⟨v0, _, rfl, h0, ⟨v1, _, rfl, h1, rfl⟩⟩ := h
  subst h0 h1
  exact rfl
theorem Answer.rmk {w : World} (x : Answer) : reps w (Answer.c x) [.bool x.Fail, .string x.Text] := by
  simp only [Answer.c, reps]
  exact ⟨_, _, rfl, by simp only [rep], ⟨_, _, rfl, by simp only [rep], rfl⟩⟩
theorem Answer.oopen {w : World} {x : Answer} {vs : List Value} {F : List Nat} (h : owns w (Answer.c x) vs F) : vs = [.bool x.Fail, .string x.Text] ∧ F = [] := by
  simp only [Answer.c, owns] at h
  obtain ⟨v0, _, F0, _, rfl, h0, ⟨v1, _, F1, _, rfl, h1, ⟨rfl, rfl⟩, rfl⟩, rfl⟩ := h
  simp only [own] at h0 h1
  obtain ⟨rfl, rfl⟩ := h0
  obtain ⟨rfl, rfl⟩ := h1
  exact ⟨rfl, by simp⟩
theorem Answer.omk {w : World} (x : Answer) : owns w (Answer.c x) [.bool x.Fail, .string x.Text] ([]) := by
  simp only [Answer.c, owns]
  exact ⟨_, _, [], _, rfl, own_b _ _, ⟨_, _, [], _, rfl, own_s _ _, ⟨rfl, rfl⟩, rfl⟩, rfl⟩
theorem Answer.elem {tAnswer : Nat} {w : World} {xs : List Answer} {v : Value} (h : rep w (AnswersT tAnswer xs) v) {i : Nat} (hi : i < xs.length) : ∃ a c, v = .slice (some a) xs.length c ∧ w.cell? (a.add (i * 2)) = some (.bool xs[i].Fail) ∧ w.cell? ⟨(a.add (i * 2)).block, (a.add (i * 2)).off + 1, none⟩ = some (.string xs[i].Text) ∧ reps w (Answer.c xs[i]) [.bool xs[i].Fail, .string xs[i].Text] := by
  obtain ⟨a, c, us, rfl, _, _, hr, hc⟩ := rep_elem h (fun _ => rfl) hi
  have hr0 := hr
  obtain rfl := Answer.ropen hr
  exact ⟨a, c, rfl, hc 0 _ rfl, by rw [← add_fld _ _ 1 (by omega)]; exact hc 1 _ rfl, hr0⟩
structure Gone where
  Code : Int
  Over : Bool
  At : Int
  Text : ByteArray
  deriving DecidableEq
def zGone : Gone := ⟨0, false, 0, ⟨#[]⟩⟩
def Gone.c (x : Gone) : List T := [.i .i64 x.Code, .b x.Over, .i .i64 x.At, .s x.Text]
def GonesT (tGone : Nat) (xs : List Gone) : T := tl tGone 4 Gone.c xs
theorem Gone.ropen {w : World} {x : Gone} {vs : List Value} (h : reps w (Gone.c x) vs) : vs = [.int .i64 x.Code, .bool x.Over, .int .i64 x.At, .string x.Text] := by
  simp only [Gone.c, reps, rep] at h
  obtain ⟨v0, _, rfl, h0, ⟨v1, _, rfl, h1, ⟨v2, _, rfl, h2, ⟨v3, _, rfl, h3, rfl⟩⟩⟩⟩ := h
  subst h0 h1 h2 h3
  exact rfl
theorem Gone.rmk {w : World} (x : Gone) : reps w (Gone.c x) [.int .i64 x.Code, .bool x.Over, .int .i64 x.At, .string x.Text] := by
  simp only [Gone.c, reps]
  exact ⟨_, _, rfl, by simp only [rep], ⟨_, _, rfl, by simp only [rep], ⟨_, _, rfl, by simp only [rep], ⟨_, _, rfl, by simp only [rep], rfl⟩⟩⟩⟩
theorem Gone.oopen {w : World} {x : Gone} {vs : List Value} {F : List Nat} (h : owns w (Gone.c x) vs F) : vs = [.int .i64 x.Code, .bool x.Over, .int .i64 x.At, .string x.Text] ∧ F = [] := by
  simp only [Gone.c, owns] at h
  obtain ⟨v0, _, F0, _, rfl, h0, ⟨v1, _, F1, _, rfl, h1, ⟨v2, _, F2, _, rfl, h2, ⟨v3, _, F3, _, rfl, h3, ⟨rfl, rfl⟩, rfl⟩, rfl⟩, rfl⟩, rfl⟩ := h
  simp only [own] at h0 h1 h2 h3
  obtain ⟨rfl, rfl⟩ := h0
  obtain ⟨rfl, rfl⟩ := h1
  obtain ⟨rfl, rfl⟩ := h2
  obtain ⟨rfl, rfl⟩ := h3
  exact ⟨rfl, by simp⟩
theorem Gone.omk {w : World} (x : Gone) : owns w (Gone.c x) [.int .i64 x.Code, .bool x.Over, .int .i64 x.At, .string x.Text] ([]) := by
  simp only [Gone.c, owns]
  exact ⟨_, _, [], _, rfl, own_i _ _ _, ⟨_, _, [], _, rfl, own_b _ _, ⟨_, _, [], _, rfl, own_i _ _ _, ⟨_, _, [], _, rfl, own_s _ _, ⟨rfl, rfl⟩, rfl⟩, rfl⟩, rfl⟩, rfl⟩
theorem Gone.elem {tGone : Nat} {w : World} {xs : List Gone} {v : Value} (h : rep w (GonesT tGone xs) v) {i : Nat} (hi : i < xs.length) : ∃ a c, v = .slice (some a) xs.length c ∧ w.cell? (a.add (i * 4)) = some (.int .i64 xs[i].Code) ∧ w.cell? ⟨(a.add (i * 4)).block, (a.add (i * 4)).off + 1, none⟩ = some (.bool xs[i].Over) ∧ w.cell? ⟨(a.add (i * 4)).block, (a.add (i * 4)).off + 2, none⟩ = some (.int .i64 xs[i].At) ∧ w.cell? ⟨(a.add (i * 4)).block, (a.add (i * 4)).off + 3, none⟩ = some (.string xs[i].Text) ∧ reps w (Gone.c xs[i]) [.int .i64 xs[i].Code, .bool xs[i].Over, .int .i64 xs[i].At, .string xs[i].Text] := by
  obtain ⟨a, c, us, rfl, _, _, hr, hc⟩ := rep_elem h (fun _ => rfl) hi
  have hr0 := hr
  obtain rfl := Gone.ropen hr
  exact ⟨a, c, rfl, hc 0 _ rfl, by rw [← add_fld _ _ 1 (by omega)]; exact hc 1 _ rfl, by rw [← add_fld _ _ 2 (by omega)]; exact hc 2 _ rfl, by rw [← add_fld _ _ 3 (by omega)]; exact hc 3 _ rfl, hr0⟩
structure Run where
  Name : ByteArray
  Over : Bool
  Fail : Bool
  Text : ByteArray
  At : Int
  Visits : Int
  Texts : List ByteArray
  deriving DecidableEq
def zRun : Run := ⟨⟨#[]⟩, false, false, ⟨#[]⟩, 0, 0, []⟩
def Run.c (x : Run) : List T := [.s x.Name, .b x.Over, .b x.Fail, .s x.Text, .i .i64 x.At, .i .i64 x.Visits, strsT 9 x.Texts]
def RunsT (tRun : Nat) (xs : List Run) : T := tl tRun 7 Run.c xs
theorem Run.ropen {w : World} {x : Run} {vs : List Value} (h : reps w (Run.c x) vs) : ∃ v6, vs = [.string x.Name, .bool x.Over, .bool x.Fail, .string x.Text, .int .i64 x.At, .int .i64 x.Visits, v6] ∧ rep w (strsT 9 x.Texts) v6 := by
  simp only [Run.c, reps] at h
  obtain ⟨v0, _, rfl, h0, ⟨v1, _, rfl, h1, ⟨v2, _, rfl, h2, ⟨v3, _, rfl, h3, ⟨v4, _, rfl, h4, ⟨v5, _, rfl, h5, ⟨v6, _, rfl, h6, rfl⟩⟩⟩⟩⟩⟩⟩ := h
  simp only [rep] at h0 h1 h2 h3 h4 h5
  subst h0 h1 h2 h3 h4 h5
  exact ⟨v6, rfl, h6⟩
theorem Run.rmk {w : World} (x : Run) {v6 : Value} (h6 : rep w (strsT 9 x.Texts) v6) : reps w (Run.c x) [.string x.Name, .bool x.Over, .bool x.Fail, .string x.Text, .int .i64 x.At, .int .i64 x.Visits, v6] := by
  simp only [Run.c, reps]
  exact ⟨_, _, rfl, by simp only [rep], ⟨_, _, rfl, by simp only [rep], ⟨_, _, rfl, by simp only [rep], ⟨_, _, rfl, by simp only [rep], ⟨_, _, rfl, by simp only [rep], ⟨_, _, rfl, by simp only [rep], ⟨_, _, rfl, h6, rfl⟩⟩⟩⟩⟩⟩⟩
theorem Run.oopen {w : World} {x : Run} {vs : List Value} {F : List Nat} (h : owns w (Run.c x) vs F) : ∃ v6 F6, vs = [.string x.Name, .bool x.Over, .bool x.Fail, .string x.Text, .int .i64 x.At, .int .i64 x.Visits, v6] ∧ own w (strsT 9 x.Texts) v6 F6 ∧ F = F6 := by
  simp only [Run.c, owns] at h
  obtain ⟨v0, _, F0, _, rfl, h0, ⟨v1, _, F1, _, rfl, h1, ⟨v2, _, F2, _, rfl, h2, ⟨v3, _, F3, _, rfl, h3, ⟨v4, _, F4, _, rfl, h4, ⟨v5, _, F5, _, rfl, h5, ⟨v6, _, F6, _, rfl, h6, ⟨rfl, rfl⟩, rfl⟩, rfl⟩, rfl⟩, rfl⟩, rfl⟩, rfl⟩, rfl⟩ := h
  simp only [own] at h0 h1 h2 h3 h4 h5
  obtain ⟨rfl, rfl⟩ := h0
  obtain ⟨rfl, rfl⟩ := h1
  obtain ⟨rfl, rfl⟩ := h2
  obtain ⟨rfl, rfl⟩ := h3
  obtain ⟨rfl, rfl⟩ := h4
  obtain ⟨rfl, rfl⟩ := h5
  exact ⟨v6, F6, rfl, h6, by simp⟩
theorem Run.omk {w : World} (x : Run) {v6 : Value} {F6 : List Nat} (h6 : own w (strsT 9 x.Texts) v6 F6) : owns w (Run.c x) [.string x.Name, .bool x.Over, .bool x.Fail, .string x.Text, .int .i64 x.At, .int .i64 x.Visits, v6] (F6) := by
  simp only [Run.c, owns]
  refine ⟨_, _, [], F6, rfl, own_s _ _, ⟨_, _, [], F6, rfl, own_b _ _, ⟨_, _, [], F6, rfl, own_b _ _, ⟨_, _, [], F6, rfl, own_s _ _, ⟨_, _, [], F6, rfl, own_i _ _ _, ⟨_, _, [], F6, rfl, own_i _ _ _, ⟨_, _, F6, [], rfl, h6, ⟨rfl, rfl⟩, by simp⟩, by simp⟩, by simp⟩, by simp⟩, by simp⟩, by simp⟩, by simp⟩
theorem Run.elem {tRun : Nat} {w : World} {xs : List Run} {v : Value} (h : rep w (RunsT tRun xs) v) {i : Nat} (hi : i < xs.length) : ∃ a c v6, v = .slice (some a) xs.length c ∧ w.cell? (a.add (i * 7)) = some (.string xs[i].Name) ∧ w.cell? ⟨(a.add (i * 7)).block, (a.add (i * 7)).off + 1, none⟩ = some (.bool xs[i].Over) ∧ w.cell? ⟨(a.add (i * 7)).block, (a.add (i * 7)).off + 2, none⟩ = some (.bool xs[i].Fail) ∧ w.cell? ⟨(a.add (i * 7)).block, (a.add (i * 7)).off + 3, none⟩ = some (.string xs[i].Text) ∧ w.cell? ⟨(a.add (i * 7)).block, (a.add (i * 7)).off + 4, none⟩ = some (.int .i64 xs[i].At) ∧ w.cell? ⟨(a.add (i * 7)).block, (a.add (i * 7)).off + 5, none⟩ = some (.int .i64 xs[i].Visits) ∧ w.cell? ⟨(a.add (i * 7)).block, (a.add (i * 7)).off + 6, none⟩ = some (v6) ∧ rep w (strsT 9 xs[i].Texts) v6 ∧ reps w (Run.c xs[i]) [.string xs[i].Name, .bool xs[i].Over, .bool xs[i].Fail, .string xs[i].Text, .int .i64 xs[i].At, .int .i64 xs[i].Visits, v6] := by
  obtain ⟨a, c, us, rfl, _, _, hr, hc⟩ := rep_elem h (fun _ => rfl) hi
  have hr0 := hr
  obtain ⟨v6, rfl, h6⟩ := Run.ropen hr
  exact ⟨a, c, v6, rfl, hc 0 _ rfl, by rw [← add_fld _ _ 1 (by omega)]; exact hc 1 _ rfl, by rw [← add_fld _ _ 2 (by omega)]; exact hc 2 _ rfl, by rw [← add_fld _ _ 3 (by omega)]; exact hc 3 _ rfl, by rw [← add_fld _ _ 4 (by omega)]; exact hc 4 _ rfl, by rw [← add_fld _ _ 5 (by omega)]; exact hc 5 _ rfl, by rw [← add_fld _ _ 6 (by omega)]; exact hc 6 _ rfl, h6, hr0⟩
structure State where
  Roots : List ByteArray
  Runs : List Run
  deriving DecidableEq
def zState : State := ⟨[], []⟩
def State.c (tRun : Nat) (x : State) : List T := [strsT 9 x.Roots, RunsT tRun x.Runs]
def StatesT (tState tRun : Nat) (xs : List State) : T := tl tState 2 (State.c tRun) xs
theorem State.ropen {tRun : Nat} {w : World} {x : State} {vs : List Value} (h : reps w (State.c tRun x) vs) : ∃ v0 v1, vs = [v0, v1] ∧ rep w (strsT 9 x.Roots) v0 ∧ rep w (RunsT tRun x.Runs) v1 := by
  simp only [State.c, reps] at h
  obtain ⟨v0, _, rfl, h0, ⟨v1, _, rfl, h1, rfl⟩⟩ := h
  exact ⟨v0, v1, rfl, h0, h1⟩
theorem State.rmk {tRun : Nat} {w : World} (x : State) {v0 : Value} (h0 : rep w (strsT 9 x.Roots) v0) {v1 : Value} (h1 : rep w (RunsT tRun x.Runs) v1) : reps w (State.c tRun x) [v0, v1] := by
  simp only [State.c, reps]
  exact ⟨_, _, rfl, h0, ⟨_, _, rfl, h1, rfl⟩⟩
theorem State.oopen {tRun : Nat} {w : World} {x : State} {vs : List Value} {F : List Nat} (h : owns w (State.c tRun x) vs F) : ∃ v0 F0 v1 F1, vs = [v0, v1] ∧ own w (strsT 9 x.Roots) v0 F0 ∧ own w (RunsT tRun x.Runs) v1 F1 ∧ F = F0 ++ F1 := by
  simp only [State.c, owns] at h
  obtain ⟨v0, _, F0, _, rfl, h0, ⟨v1, _, F1, _, rfl, h1, ⟨rfl, rfl⟩, rfl⟩, rfl⟩ := h
  exact ⟨v0, F0, v1, F1, rfl, h0, h1, by simp⟩
theorem State.omk {tRun : Nat} {w : World} (x : State) {v0 : Value} {F0 : List Nat} (h0 : own w (strsT 9 x.Roots) v0 F0) {v1 : Value} {F1 : List Nat} (h1 : own w (RunsT tRun x.Runs) v1 F1) : owns w (State.c tRun x) [v0, v1] (F0 ++ F1) := by
  simp only [State.c, owns]
  refine ⟨_, _, F0, F1, rfl, h0, ⟨_, _, F1, [], rfl, h1, ⟨rfl, rfl⟩, by simp⟩, by simp⟩
theorem State.elem {tState tRun : Nat} {w : World} {xs : List State} {v : Value} (h : rep w (StatesT tState tRun xs) v) {i : Nat} (hi : i < xs.length) : ∃ a c v0 v1, v = .slice (some a) xs.length c ∧ w.cell? (a.add (i * 2)) = some (v0) ∧ w.cell? ⟨(a.add (i * 2)).block, (a.add (i * 2)).off + 1, none⟩ = some (v1) ∧ rep w (strsT 9 xs[i].Roots) v0 ∧ rep w (RunsT tRun xs[i].Runs) v1 ∧ reps w (State.c tRun xs[i]) [v0, v1] := by
  obtain ⟨a, c, us, rfl, _, _, hr, hc⟩ := rep_elem h (fun _ => rfl) hi
  have hr0 := hr
  obtain ⟨v0, v1, rfl, h0, h1⟩ := State.ropen hr
  exact ⟨a, c, v0, v1, rfl, hc 0 _ rfl, by rw [← add_fld _ _ 1 (by omega)]; exact hc 1 _ rfl, h0, h1, hr0⟩
structure Result where
  Name : ByteArray
  Over : Bool
  Fail : Bool
  Text : ByteArray
  deriving DecidableEq
def zResult : Result := ⟨⟨#[]⟩, false, false, ⟨#[]⟩⟩
def Result.c (x : Result) : List T := [.s x.Name, .b x.Over, .b x.Fail, .s x.Text]
def ResultsT (tResult : Nat) (xs : List Result) : T := tl tResult 4 Result.c xs
theorem Result.ropen {w : World} {x : Result} {vs : List Value} (h : reps w (Result.c x) vs) : vs = [.string x.Name, .bool x.Over, .bool x.Fail, .string x.Text] := by
  simp only [Result.c, reps, rep] at h
  obtain ⟨v0, _, rfl, h0, ⟨v1, _, rfl, h1, ⟨v2, _, rfl, h2, ⟨v3, _, rfl, h3, rfl⟩⟩⟩⟩ := h
  subst h0 h1 h2 h3
  exact rfl
theorem Result.rmk {w : World} (x : Result) : reps w (Result.c x) [.string x.Name, .bool x.Over, .bool x.Fail, .string x.Text] := by
  simp only [Result.c, reps]
  exact ⟨_, _, rfl, by simp only [rep], ⟨_, _, rfl, by simp only [rep], ⟨_, _, rfl, by simp only [rep], ⟨_, _, rfl, by simp only [rep], rfl⟩⟩⟩⟩
theorem Result.oopen {w : World} {x : Result} {vs : List Value} {F : List Nat} (h : owns w (Result.c x) vs F) : vs = [.string x.Name, .bool x.Over, .bool x.Fail, .string x.Text] ∧ F = [] := by
  simp only [Result.c, owns] at h
  obtain ⟨v0, _, F0, _, rfl, h0, ⟨v1, _, F1, _, rfl, h1, ⟨v2, _, F2, _, rfl, h2, ⟨v3, _, F3, _, rfl, h3, ⟨rfl, rfl⟩, rfl⟩, rfl⟩, rfl⟩, rfl⟩ := h
  simp only [own] at h0 h1 h2 h3
  obtain ⟨rfl, rfl⟩ := h0
  obtain ⟨rfl, rfl⟩ := h1
  obtain ⟨rfl, rfl⟩ := h2
  obtain ⟨rfl, rfl⟩ := h3
  exact ⟨rfl, by simp⟩
theorem Result.omk {w : World} (x : Result) : owns w (Result.c x) [.string x.Name, .bool x.Over, .bool x.Fail, .string x.Text] ([]) := by
  simp only [Result.c, owns]
  exact ⟨_, _, [], _, rfl, own_s _ _, ⟨_, _, [], _, rfl, own_b _ _, ⟨_, _, [], _, rfl, own_b _ _, ⟨_, _, [], _, rfl, own_s _ _, ⟨rfl, rfl⟩, rfl⟩, rfl⟩, rfl⟩, rfl⟩
theorem Result.elem {tResult : Nat} {w : World} {xs : List Result} {v : Value} (h : rep w (ResultsT tResult xs) v) {i : Nat} (hi : i < xs.length) : ∃ a c, v = .slice (some a) xs.length c ∧ w.cell? (a.add (i * 4)) = some (.string xs[i].Name) ∧ w.cell? ⟨(a.add (i * 4)).block, (a.add (i * 4)).off + 1, none⟩ = some (.bool xs[i].Over) ∧ w.cell? ⟨(a.add (i * 4)).block, (a.add (i * 4)).off + 2, none⟩ = some (.bool xs[i].Fail) ∧ w.cell? ⟨(a.add (i * 4)).block, (a.add (i * 4)).off + 3, none⟩ = some (.string xs[i].Text) ∧ reps w (Result.c xs[i]) [.string xs[i].Name, .bool xs[i].Over, .bool xs[i].Fail, .string xs[i].Text] := by
  obtain ⟨a, c, us, rfl, _, _, hr, hc⟩ := rep_elem h (fun _ => rfl) hi
  have hr0 := hr
  obtain rfl := Result.ropen hr
  exact ⟨a, c, rfl, hc 0 _ rfl, by rw [← add_fld _ _ 1 (by omega)]; exact hc 1 _ rfl, by rw [← add_fld _ _ 2 (by omega)]; exact hc 2 _ rfl, by rw [← add_fld _ _ 3 (by omega)]; exact hc 3 _ rfl, hr0⟩
structure Outcome where
  Code : Int
  Results : List Result
  Chain : List ByteArray
  Units : Int
  Cost : Int
  deriving DecidableEq
def zOutcome : Outcome := ⟨0, [], [], 0, 0⟩
def Outcome.c (tResult : Nat) (x : Outcome) : List T := [.i .i64 x.Code, ResultsT tResult x.Results, strsT 9 x.Chain, .i .i64 x.Units, .i .i64 x.Cost]
def OutcomesT (tOutcome tResult : Nat) (xs : List Outcome) : T := tl tOutcome 5 (Outcome.c tResult) xs
theorem Outcome.ropen {tResult : Nat} {w : World} {x : Outcome} {vs : List Value} (h : reps w (Outcome.c tResult x) vs) : ∃ v1 v2, vs = [.int .i64 x.Code, v1, v2, .int .i64 x.Units, .int .i64 x.Cost] ∧ rep w (ResultsT tResult x.Results) v1 ∧ rep w (strsT 9 x.Chain) v2 := by
  simp only [Outcome.c, reps] at h
  obtain ⟨v0, _, rfl, h0, ⟨v1, _, rfl, h1, ⟨v2, _, rfl, h2, ⟨v3, _, rfl, h3, ⟨v4, _, rfl, h4, rfl⟩⟩⟩⟩⟩ := h
  simp only [rep] at h0 h3 h4
  subst h0 h3 h4
  exact ⟨v1, v2, rfl, h1, h2⟩
theorem Outcome.rmk {tResult : Nat} {w : World} (x : Outcome) {v1 : Value} (h1 : rep w (ResultsT tResult x.Results) v1) {v2 : Value} (h2 : rep w (strsT 9 x.Chain) v2) : reps w (Outcome.c tResult x) [.int .i64 x.Code, v1, v2, .int .i64 x.Units, .int .i64 x.Cost] := by
  simp only [Outcome.c, reps]
  exact ⟨_, _, rfl, by simp only [rep], ⟨_, _, rfl, h1, ⟨_, _, rfl, h2, ⟨_, _, rfl, by simp only [rep], ⟨_, _, rfl, by simp only [rep], rfl⟩⟩⟩⟩⟩
theorem Outcome.oopen {tResult : Nat} {w : World} {x : Outcome} {vs : List Value} {F : List Nat} (h : owns w (Outcome.c tResult x) vs F) : ∃ v1 F1 v2 F2, vs = [.int .i64 x.Code, v1, v2, .int .i64 x.Units, .int .i64 x.Cost] ∧ own w (ResultsT tResult x.Results) v1 F1 ∧ own w (strsT 9 x.Chain) v2 F2 ∧ F = F1 ++ F2 := by
  simp only [Outcome.c, owns] at h
  obtain ⟨v0, _, F0, _, rfl, h0, ⟨v1, _, F1, _, rfl, h1, ⟨v2, _, F2, _, rfl, h2, ⟨v3, _, F3, _, rfl, h3, ⟨v4, _, F4, _, rfl, h4, ⟨rfl, rfl⟩, rfl⟩, rfl⟩, rfl⟩, rfl⟩, rfl⟩ := h
  simp only [own] at h0 h3 h4
  obtain ⟨rfl, rfl⟩ := h0
  obtain ⟨rfl, rfl⟩ := h3
  obtain ⟨rfl, rfl⟩ := h4
  exact ⟨v1, F1, v2, F2, rfl, h1, h2, by simp⟩
theorem Outcome.omk {tResult : Nat} {w : World} (x : Outcome) {v1 : Value} {F1 : List Nat} (h1 : own w (ResultsT tResult x.Results) v1 F1) {v2 : Value} {F2 : List Nat} (h2 : own w (strsT 9 x.Chain) v2 F2) : owns w (Outcome.c tResult x) [.int .i64 x.Code, v1, v2, .int .i64 x.Units, .int .i64 x.Cost] (F1 ++ F2) := by
  simp only [Outcome.c, owns]
  refine ⟨_, _, [], F1 ++ F2, rfl, own_i _ _ _, ⟨_, _, F1, F2, rfl, h1, ⟨_, _, F2, [], rfl, h2, ⟨_, _, [], [], rfl, own_i _ _ _, ⟨_, _, [], [], rfl, own_i _ _ _, ⟨rfl, rfl⟩, by simp⟩, by simp⟩, by simp⟩, by simp⟩, by simp⟩
theorem Outcome.elem {tOutcome tResult : Nat} {w : World} {xs : List Outcome} {v : Value} (h : rep w (OutcomesT tOutcome tResult xs) v) {i : Nat} (hi : i < xs.length) : ∃ a c v1 v2, v = .slice (some a) xs.length c ∧ w.cell? (a.add (i * 5)) = some (.int .i64 xs[i].Code) ∧ w.cell? ⟨(a.add (i * 5)).block, (a.add (i * 5)).off + 1, none⟩ = some (v1) ∧ w.cell? ⟨(a.add (i * 5)).block, (a.add (i * 5)).off + 2, none⟩ = some (v2) ∧ w.cell? ⟨(a.add (i * 5)).block, (a.add (i * 5)).off + 3, none⟩ = some (.int .i64 xs[i].Units) ∧ w.cell? ⟨(a.add (i * 5)).block, (a.add (i * 5)).off + 4, none⟩ = some (.int .i64 xs[i].Cost) ∧ rep w (ResultsT tResult xs[i].Results) v1 ∧ rep w (strsT 9 xs[i].Chain) v2 ∧ reps w (Outcome.c tResult xs[i]) [.int .i64 xs[i].Code, v1, v2, .int .i64 xs[i].Units, .int .i64 xs[i].Cost] := by
  obtain ⟨a, c, us, rfl, _, _, hr, hc⟩ := rep_elem h (fun _ => rfl) hi
  have hr0 := hr
  obtain ⟨v1, v2, rfl, h1, h2⟩ := Outcome.ropen hr
  exact ⟨a, c, v1, v2, rfl, hc 0 _ rfl, by rw [← add_fld _ _ 1 (by omega)]; exact hc 1 _ rfl, by rw [← add_fld _ _ 2 (by omega)]; exact hc 2 _ rfl, by rw [← add_fld _ _ 3 (by omega)]; exact hc 3 _ rfl, by rw [← add_fld _ _ 4 (by omega)]; exact hc 4 _ rfl, h1, h2, hr0⟩
structure Walk where
  State : State
  Done : List ByteArray
  deriving DecidableEq
def zWalk : Walk := ⟨zState, []⟩
def Walk.c (tRun : Nat) (x : Walk) : List T := [strsT 9 x.State.Roots, RunsT tRun x.State.Runs, strsT 9 x.Done]
def WalksT (tWalk tRun : Nat) (xs : List Walk) : T := tl tWalk 3 (Walk.c tRun) xs
theorem Walk.ropen {tRun : Nat} {w : World} {x : Walk} {vs : List Value} (h : reps w (Walk.c tRun x) vs) : ∃ v0 v1 v2, vs = [v0, v1, v2] ∧ rep w (strsT 9 x.State.Roots) v0 ∧ rep w (RunsT tRun x.State.Runs) v1 ∧ rep w (strsT 9 x.Done) v2 := by
  simp only [Walk.c, reps] at h
  obtain ⟨v0, _, rfl, h0, ⟨v1, _, rfl, h1, ⟨v2, _, rfl, h2, rfl⟩⟩⟩ := h
  exact ⟨v0, v1, v2, rfl, h0, h1, h2⟩
theorem Walk.rmk {tRun : Nat} {w : World} (x : Walk) {v0 : Value} (h0 : rep w (strsT 9 x.State.Roots) v0) {v1 : Value} (h1 : rep w (RunsT tRun x.State.Runs) v1) {v2 : Value} (h2 : rep w (strsT 9 x.Done) v2) : reps w (Walk.c tRun x) [v0, v1, v2] := by
  simp only [Walk.c, reps]
  exact ⟨_, _, rfl, h0, ⟨_, _, rfl, h1, ⟨_, _, rfl, h2, rfl⟩⟩⟩
theorem Walk.oopen {tRun : Nat} {w : World} {x : Walk} {vs : List Value} {F : List Nat} (h : owns w (Walk.c tRun x) vs F) : ∃ v0 F0 v1 F1 v2 F2, vs = [v0, v1, v2] ∧ own w (strsT 9 x.State.Roots) v0 F0 ∧ own w (RunsT tRun x.State.Runs) v1 F1 ∧ own w (strsT 9 x.Done) v2 F2 ∧ F = F0 ++ F1 ++ F2 := by
  simp only [Walk.c, owns] at h
  obtain ⟨v0, _, F0, _, rfl, h0, ⟨v1, _, F1, _, rfl, h1, ⟨v2, _, F2, _, rfl, h2, ⟨rfl, rfl⟩, rfl⟩, rfl⟩, rfl⟩ := h
  exact ⟨v0, F0, v1, F1, v2, F2, rfl, h0, h1, h2, by simp⟩
theorem Walk.omk {tRun : Nat} {w : World} (x : Walk) {v0 : Value} {F0 : List Nat} (h0 : own w (strsT 9 x.State.Roots) v0 F0) {v1 : Value} {F1 : List Nat} (h1 : own w (RunsT tRun x.State.Runs) v1 F1) {v2 : Value} {F2 : List Nat} (h2 : own w (strsT 9 x.Done) v2 F2) : owns w (Walk.c tRun x) [v0, v1, v2] (F0 ++ F1 ++ F2) := by
  simp only [Walk.c, owns]
  refine ⟨_, _, F0, F1 ++ F2, rfl, h0, ⟨_, _, F1, F2, rfl, h1, ⟨_, _, F2, [], rfl, h2, ⟨rfl, rfl⟩, by simp⟩, by simp⟩, by simp⟩
theorem Walk.elem {tWalk tRun : Nat} {w : World} {xs : List Walk} {v : Value} (h : rep w (WalksT tWalk tRun xs) v) {i : Nat} (hi : i < xs.length) : ∃ a c v0 v1 v2, v = .slice (some a) xs.length c ∧ w.cell? (a.add (i * 3)) = some (v0) ∧ w.cell? ⟨(a.add (i * 3)).block, (a.add (i * 3)).off + 1, none⟩ = some (v1) ∧ w.cell? ⟨(a.add (i * 3)).block, (a.add (i * 3)).off + 2, none⟩ = some (v2) ∧ rep w (strsT 9 xs[i].State.Roots) v0 ∧ rep w (RunsT tRun xs[i].State.Runs) v1 ∧ rep w (strsT 9 xs[i].Done) v2 ∧ reps w (Walk.c tRun xs[i]) [v0, v1, v2] := by
  obtain ⟨a, c, us, rfl, _, _, hr, hc⟩ := rep_elem h (fun _ => rfl) hi
  have hr0 := hr
  obtain ⟨v0, v1, v2, rfl, h0, h1, h2⟩ := Walk.ropen hr
  exact ⟨a, c, v0, v1, v2, rfl, hc 0 _ rfl, by rw [← add_fld _ _ 1 (by omega)]; exact hc 1 _ rfl, by rw [← add_fld _ _ 2 (by omega)]; exact hc 2 _ rfl, h0, h1, h2, hr0⟩
structure Slot where
  At : Int
  Worker : Int
  Name : ByteArray
  deriving DecidableEq
def zSlot : Slot := ⟨0, 0, ⟨#[]⟩⟩
def Slot.c (x : Slot) : List T := [.i .i64 x.At, .i .i64 x.Worker, .s x.Name]
def SlotsT (tSlot : Nat) (xs : List Slot) : T := tl tSlot 3 Slot.c xs
theorem Slot.ropen {w : World} {x : Slot} {vs : List Value} (h : reps w (Slot.c x) vs) : vs = [.int .i64 x.At, .int .i64 x.Worker, .string x.Name] := by
  simp only [Slot.c, reps, rep] at h
  obtain ⟨v0, _, rfl, h0, ⟨v1, _, rfl, h1, ⟨v2, _, rfl, h2, rfl⟩⟩⟩ := h
  subst h0 h1 h2
  exact rfl
theorem Slot.rmk {w : World} (x : Slot) : reps w (Slot.c x) [.int .i64 x.At, .int .i64 x.Worker, .string x.Name] := by
  simp only [Slot.c, reps]
  exact ⟨_, _, rfl, by simp only [rep], ⟨_, _, rfl, by simp only [rep], ⟨_, _, rfl, by simp only [rep], rfl⟩⟩⟩
theorem Slot.oopen {w : World} {x : Slot} {vs : List Value} {F : List Nat} (h : owns w (Slot.c x) vs F) : vs = [.int .i64 x.At, .int .i64 x.Worker, .string x.Name] ∧ F = [] := by
  simp only [Slot.c, owns] at h
  obtain ⟨v0, _, F0, _, rfl, h0, ⟨v1, _, F1, _, rfl, h1, ⟨v2, _, F2, _, rfl, h2, ⟨rfl, rfl⟩, rfl⟩, rfl⟩, rfl⟩ := h
  simp only [own] at h0 h1 h2
  obtain ⟨rfl, rfl⟩ := h0
  obtain ⟨rfl, rfl⟩ := h1
  obtain ⟨rfl, rfl⟩ := h2
  exact ⟨rfl, by simp⟩
theorem Slot.omk {w : World} (x : Slot) : owns w (Slot.c x) [.int .i64 x.At, .int .i64 x.Worker, .string x.Name] ([]) := by
  simp only [Slot.c, owns]
  exact ⟨_, _, [], _, rfl, own_i _ _ _, ⟨_, _, [], _, rfl, own_i _ _ _, ⟨_, _, [], _, rfl, own_s _ _, ⟨rfl, rfl⟩, rfl⟩, rfl⟩, rfl⟩
theorem Slot.elem {tSlot : Nat} {w : World} {xs : List Slot} {v : Value} (h : rep w (SlotsT tSlot xs) v) {i : Nat} (hi : i < xs.length) : ∃ a c, v = .slice (some a) xs.length c ∧ w.cell? (a.add (i * 3)) = some (.int .i64 xs[i].At) ∧ w.cell? ⟨(a.add (i * 3)).block, (a.add (i * 3)).off + 1, none⟩ = some (.int .i64 xs[i].Worker) ∧ w.cell? ⟨(a.add (i * 3)).block, (a.add (i * 3)).off + 2, none⟩ = some (.string xs[i].Name) ∧ reps w (Slot.c xs[i]) [.int .i64 xs[i].At, .int .i64 xs[i].Worker, .string xs[i].Name] := by
  obtain ⟨a, c, us, rfl, _, _, hr, hc⟩ := rep_elem h (fun _ => rfl) hi
  have hr0 := hr
  obtain rfl := Slot.ropen hr
  exact ⟨a, c, rfl, hc 0 _ rfl, by rw [← add_fld _ _ 1 (by omega)]; exact hc 1 _ rfl, by rw [← add_fld _ _ 2 (by omega)]; exact hc 2 _ rfl, hr0⟩
structure Plan where
  Code : Int
  Slots : List Slot
  Ticks : Int
  Outcome : Outcome
  Chain : List Slot
  deriving DecidableEq
def zPlan : Plan := ⟨0, [], 0, zOutcome, []⟩
def Plan.c (tSlot tResult : Nat) (x : Plan) : List T := [.i .i64 x.Code, SlotsT tSlot x.Slots, .i .i64 x.Ticks, .i .i64 x.Outcome.Code, ResultsT tResult x.Outcome.Results, strsT 9 x.Outcome.Chain, .i .i64 x.Outcome.Units, .i .i64 x.Outcome.Cost, SlotsT tSlot x.Chain]
def PlansT (tPlan tSlot tResult : Nat) (xs : List Plan) : T := tl tPlan 9 (Plan.c tSlot tResult) xs
theorem Plan.ropen {tSlot tResult : Nat} {w : World} {x : Plan} {vs : List Value} (h : reps w (Plan.c tSlot tResult x) vs) : ∃ v1 v4 v5 v8, vs = [.int .i64 x.Code, v1, .int .i64 x.Ticks, .int .i64 x.Outcome.Code, v4, v5, .int .i64 x.Outcome.Units, .int .i64 x.Outcome.Cost, v8] ∧ rep w (SlotsT tSlot x.Slots) v1 ∧ rep w (ResultsT tResult x.Outcome.Results) v4 ∧ rep w (strsT 9 x.Outcome.Chain) v5 ∧ rep w (SlotsT tSlot x.Chain) v8 := by
  simp only [Plan.c, reps] at h
  obtain ⟨v0, _, rfl, h0, ⟨v1, _, rfl, h1, ⟨v2, _, rfl, h2, ⟨v3, _, rfl, h3, ⟨v4, _, rfl, h4, ⟨v5, _, rfl, h5, ⟨v6, _, rfl, h6, ⟨v7, _, rfl, h7, ⟨v8, _, rfl, h8, rfl⟩⟩⟩⟩⟩⟩⟩⟩⟩ := h
  simp only [rep] at h0 h2 h3 h6 h7
  subst h0 h2 h3 h6 h7
  exact ⟨v1, v4, v5, v8, rfl, h1, h4, h5, h8⟩
theorem Plan.rmk {tSlot tResult : Nat} {w : World} (x : Plan) {v1 : Value} (h1 : rep w (SlotsT tSlot x.Slots) v1) {v4 : Value} (h4 : rep w (ResultsT tResult x.Outcome.Results) v4) {v5 : Value} (h5 : rep w (strsT 9 x.Outcome.Chain) v5) {v8 : Value} (h8 : rep w (SlotsT tSlot x.Chain) v8) : reps w (Plan.c tSlot tResult x) [.int .i64 x.Code, v1, .int .i64 x.Ticks, .int .i64 x.Outcome.Code, v4, v5, .int .i64 x.Outcome.Units, .int .i64 x.Outcome.Cost, v8] := by
  simp only [Plan.c, reps]
  exact ⟨_, _, rfl, by simp only [rep], ⟨_, _, rfl, h1, ⟨_, _, rfl, by simp only [rep], ⟨_, _, rfl, by simp only [rep], ⟨_, _, rfl, h4, ⟨_, _, rfl, h5, ⟨_, _, rfl, by simp only [rep], ⟨_, _, rfl, by simp only [rep], ⟨_, _, rfl, h8, rfl⟩⟩⟩⟩⟩⟩⟩⟩⟩
theorem Plan.oopen {tSlot tResult : Nat} {w : World} {x : Plan} {vs : List Value} {F : List Nat} (h : owns w (Plan.c tSlot tResult x) vs F) : ∃ v1 F1 v4 F4 v5 F5 v8 F8, vs = [.int .i64 x.Code, v1, .int .i64 x.Ticks, .int .i64 x.Outcome.Code, v4, v5, .int .i64 x.Outcome.Units, .int .i64 x.Outcome.Cost, v8] ∧ own w (SlotsT tSlot x.Slots) v1 F1 ∧ own w (ResultsT tResult x.Outcome.Results) v4 F4 ∧ own w (strsT 9 x.Outcome.Chain) v5 F5 ∧ own w (SlotsT tSlot x.Chain) v8 F8 ∧ F = F1 ++ F4 ++ F5 ++ F8 := by
  simp only [Plan.c, owns] at h
  obtain ⟨v0, _, F0, _, rfl, h0, ⟨v1, _, F1, _, rfl, h1, ⟨v2, _, F2, _, rfl, h2, ⟨v3, _, F3, _, rfl, h3, ⟨v4, _, F4, _, rfl, h4, ⟨v5, _, F5, _, rfl, h5, ⟨v6, _, F6, _, rfl, h6, ⟨v7, _, F7, _, rfl, h7, ⟨v8, _, F8, _, rfl, h8, ⟨rfl, rfl⟩, rfl⟩, rfl⟩, rfl⟩, rfl⟩, rfl⟩, rfl⟩, rfl⟩, rfl⟩, rfl⟩ := h
  simp only [own] at h0 h2 h3 h6 h7
  obtain ⟨rfl, rfl⟩ := h0
  obtain ⟨rfl, rfl⟩ := h2
  obtain ⟨rfl, rfl⟩ := h3
  obtain ⟨rfl, rfl⟩ := h6
  obtain ⟨rfl, rfl⟩ := h7
  exact ⟨v1, F1, v4, F4, v5, F5, v8, F8, rfl, h1, h4, h5, h8, by simp⟩
theorem Plan.omk {tSlot tResult : Nat} {w : World} (x : Plan) {v1 : Value} {F1 : List Nat} (h1 : own w (SlotsT tSlot x.Slots) v1 F1) {v4 : Value} {F4 : List Nat} (h4 : own w (ResultsT tResult x.Outcome.Results) v4 F4) {v5 : Value} {F5 : List Nat} (h5 : own w (strsT 9 x.Outcome.Chain) v5 F5) {v8 : Value} {F8 : List Nat} (h8 : own w (SlotsT tSlot x.Chain) v8 F8) : owns w (Plan.c tSlot tResult x) [.int .i64 x.Code, v1, .int .i64 x.Ticks, .int .i64 x.Outcome.Code, v4, v5, .int .i64 x.Outcome.Units, .int .i64 x.Outcome.Cost, v8] (F1 ++ F4 ++ F5 ++ F8) := by
  simp only [Plan.c, owns]
  refine ⟨_, _, [], F1 ++ F4 ++ F5 ++ F8, rfl, own_i _ _ _, ⟨_, _, F1, F4 ++ F5 ++ F8, rfl, h1, ⟨_, _, [], F4 ++ F5 ++ F8, rfl, own_i _ _ _, ⟨_, _, [], F4 ++ F5 ++ F8, rfl, own_i _ _ _, ⟨_, _, F4, F5 ++ F8, rfl, h4, ⟨_, _, F5, F8, rfl, h5, ⟨_, _, [], F8, rfl, own_i _ _ _, ⟨_, _, [], F8, rfl, own_i _ _ _, ⟨_, _, F8, [], rfl, h8, ⟨rfl, rfl⟩, by simp⟩, by simp⟩, by simp⟩, by simp⟩, by simp⟩, by simp⟩, by simp⟩, by simp⟩, by simp⟩
theorem Plan.elem {tPlan tSlot tResult : Nat} {w : World} {xs : List Plan} {v : Value} (h : rep w (PlansT tPlan tSlot tResult xs) v) {i : Nat} (hi : i < xs.length) : ∃ a c v1 v4 v5 v8, v = .slice (some a) xs.length c ∧ w.cell? (a.add (i * 9)) = some (.int .i64 xs[i].Code) ∧ w.cell? ⟨(a.add (i * 9)).block, (a.add (i * 9)).off + 1, none⟩ = some (v1) ∧ w.cell? ⟨(a.add (i * 9)).block, (a.add (i * 9)).off + 2, none⟩ = some (.int .i64 xs[i].Ticks) ∧ w.cell? ⟨(a.add (i * 9)).block, (a.add (i * 9)).off + 3, none⟩ = some (.int .i64 xs[i].Outcome.Code) ∧ w.cell? ⟨(a.add (i * 9)).block, (a.add (i * 9)).off + 4, none⟩ = some (v4) ∧ w.cell? ⟨(a.add (i * 9)).block, (a.add (i * 9)).off + 5, none⟩ = some (v5) ∧ w.cell? ⟨(a.add (i * 9)).block, (a.add (i * 9)).off + 6, none⟩ = some (.int .i64 xs[i].Outcome.Units) ∧ w.cell? ⟨(a.add (i * 9)).block, (a.add (i * 9)).off + 7, none⟩ = some (.int .i64 xs[i].Outcome.Cost) ∧ w.cell? ⟨(a.add (i * 9)).block, (a.add (i * 9)).off + 8, none⟩ = some (v8) ∧ rep w (SlotsT tSlot xs[i].Slots) v1 ∧ rep w (ResultsT tResult xs[i].Outcome.Results) v4 ∧ rep w (strsT 9 xs[i].Outcome.Chain) v5 ∧ rep w (SlotsT tSlot xs[i].Chain) v8 ∧ reps w (Plan.c tSlot tResult xs[i]) [.int .i64 xs[i].Code, v1, .int .i64 xs[i].Ticks, .int .i64 xs[i].Outcome.Code, v4, v5, .int .i64 xs[i].Outcome.Units, .int .i64 xs[i].Outcome.Cost, v8] := by
  obtain ⟨a, c, us, rfl, _, _, hr, hc⟩ := rep_elem h (fun _ => rfl) hi
  have hr0 := hr
  obtain ⟨v1, v4, v5, v8, rfl, h1, h4, h5, h8⟩ := Plan.ropen hr
  exact ⟨a, c, v1, v4, v5, v8, rfl, hc 0 _ rfl, by rw [← add_fld _ _ 1 (by omega)]; exact hc 1 _ rfl, by rw [← add_fld _ _ 2 (by omega)]; exact hc 2 _ rfl, by rw [← add_fld _ _ 3 (by omega)]; exact hc 3 _ rfl, by rw [← add_fld _ _ 4 (by omega)]; exact hc 4 _ rfl, by rw [← add_fld _ _ 5 (by omega)]; exact hc 5 _ rfl, by rw [← add_fld _ _ 6 (by omega)]; exact hc 6 _ rfl, by rw [← add_fld _ _ 7 (by omega)]; exact hc 7 _ rfl, by rw [← add_fld _ _ 8 (by omega)]; exact hc 8 _ rfl, h1, h4, h5, h8, hr0⟩
theorem str_elem {t : Nat} {w : World} {xs : List ByteArray} {v : Value} (h : rep w (strsT t xs) v) {i : Nat} (hi : i < xs.length) : ∃ a c, v = .slice (some a) xs.length c ∧ w.cell? (a.add i) = some (.string xs[i]) := by
  obtain ⟨a, c, us, rfl, _, _, hr, hc⟩ := rep_elem h (fun _ => rfl) hi
  simp only [strC, intC, byteC, reps, rep] at hr
  obtain ⟨_, _, rfl, rfl, rfl⟩ := hr
  exact ⟨a, c, rfl, by have := hc 0 _ rfl; rwa [Nat.mul_one, Nat.add_zero] at this⟩
theorem int_elem {t : Nat} {w : World} {xs : List Int} {v : Value} (h : rep w (intsT t xs) v) {i : Nat} (hi : i < xs.length) : ∃ a c, v = .slice (some a) xs.length c ∧ w.cell? (a.add i) = some (.int .i64 xs[i]) := by
  obtain ⟨a, c, us, rfl, _, _, hr, hc⟩ := rep_elem h (fun _ => rfl) hi
  simp only [strC, intC, byteC, reps, rep] at hr
  obtain ⟨_, _, rfl, rfl, rfl⟩ := hr
  exact ⟨a, c, rfl, by have := hc 0 _ rfl; rwa [Nat.mul_one, Nat.add_zero] at this⟩
theorem byte_elem {t : Nat} {w : World} {xs : List UInt8} {v : Value} (h : rep w (bytesT t xs) v) {i : Nat} (hi : i < xs.length) : ∃ a c, v = .slice (some a) xs.length c ∧ w.cell? (a.add i) = some (.int .u8 xs[i].toNat) := by
  obtain ⟨a, c, us, rfl, _, _, hr, hc⟩ := rep_elem h (fun _ => rfl) hi
  simp only [strC, intC, byteC, reps, rep] at hr
  obtain ⟨_, _, rfl, rfl, rfl⟩ := hr
  exact ⟨a, c, rfl, by have := hc 0 _ rfl; rwa [Nat.mul_one, Nat.add_zero] at this⟩
end Go.Proofs.Ytmjfkjdfmpileaa.M
