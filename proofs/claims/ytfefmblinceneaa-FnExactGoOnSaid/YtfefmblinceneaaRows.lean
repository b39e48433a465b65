/-
  No cell of these rows narrows 'for every input' (looked for: loops, veiled, ifaces, maps, wideKeys, modest, calm, conditions, laid).
  DERIVED. THE GIVEN ROWS OF THIS SEAT. 4 by the template 'for every input the law returns true; each argument reads behind the call as it read before'; 0 by the template 'total and deterministic' (their statements: YtfefmblinceneaaTotals.lean).
  GIVEN WITH THE SEED: the statements are not yours to turn. If you find one false, say at which input.
  Laid BY PROGRAM, IN A SANDBOX (cutbox-rows.mjs): the forced cells as the released guide's own fill.sh prints them over the translation c74d5aec7d43461a… (all of the seat's roots in one cut). By AI agents, Wed Nov 11 2026. No macro, syntax, notation, axiom, sorry.
-/
import Derived.Test.YtfefmblinceneaaChecked
import GoSem.Claim
import GoSem.ClaimJoined
import GoSem.ClaimMapViews
import Derived.JoinedTies
import Derived.KernelRfl
namespace Go.Proofs.Ytfefmblinceneaa
/- THE CELL 'sum', in the pinned program and in every row, IS THE sha256 OF THE DUMP (.gsa) THAT YtfefmblinceneaaProg.lean LOADS. Nothing in Lean hashes anything: it is a label: what it is worth is what the hold of that sum in a sandbox is worth. -/
noncomputable def Try.pinned : Pinned := { name := "ytfefmblinceneaa", sum := "c74d5aec7d43461ab178c9c5a1205e4ff507b49ab11ff835749de452fab9ec54", checked := Try.checked }
namespace Rows
def none {H : Type} : Left H := { results := [], args := [] }

/-- 'laws.FnExactConstants': WHATEVER THE INPUT: true; the input reads as it did. -/
def fnExactConstantsSpec : ChangeSpec := { name := "fnExactConstants", fn := fun _ => fun
  | [] => { results := [.lit (.bool true)], args := [] }
  | _ => none }
def fnExactConstantsRow : OpenClaim := { program := "ytfefmblinceneaa", sum := "c74d5aec7d43461ab178c9c5a1205e4ff507b49ab11ff835749de452fab9ec54", func := "loop.example/kilnweb/laws.FnExactConstants", spec := "fnExactConstants", apart := false }
def FnExactConstantsSaid : Prop := fnExactConstantsRow.holds Try.pinned (OpenSpec.ofChange fnExactConstantsSpec)

/-- ITS FALSE NEIGHBOUR: 'it returns false'. Refute it at one input. -/
def fnExactConstantsWrong : ChangeSpec := { name := "fnExactConstants", fn := fun _ => fun
  | [] => { results := [.lit (.bool false)], args := [] }
  | _ => none }
def FnExactConstantsWrongFalsely : Prop := fnExactConstantsRow.holds Try.pinned (OpenSpec.ofChange fnExactConstantsWrong)

/-- 'laws.FnExactValidAction': WHATEVER THE INPUT: true; the input reads as it did. -/
def fnExactValidActionSpec : ChangeSpec := { name := "fnExactValidAction", fn := fun _ => fun
  | [d] => { results := [.lit (.bool true)], args := [d] }
  | _ => none }
def fnExactValidActionRow : OpenClaim := { program := "ytfefmblinceneaa", sum := "c74d5aec7d43461ab178c9c5a1205e4ff507b49ab11ff835749de452fab9ec54", func := "loop.example/kilnweb/laws.FnExactValidAction", spec := "fnExactValidAction", apart := false }
def FnExactValidActionSaid : Prop := fnExactValidActionRow.holds Try.pinned (OpenSpec.ofChange fnExactValidActionSpec)

/-- ITS FALSE NEIGHBOUR: 'it returns false'. Refute it at one input. -/
def fnExactValidActionWrong : ChangeSpec := { name := "fnExactValidAction", fn := fun _ => fun
  | [d] => { results := [.lit (.bool false)], args := [d] }
  | _ => none }
def FnExactValidActionWrongFalsely : Prop := fnExactValidActionRow.holds Try.pinned (OpenSpec.ofChange fnExactValidActionWrong)

/-- 'laws.FnExactCheckWeb': WHATEVER THE INPUT: true; the input reads as it did. -/
def fnExactCheckWebSpec : ChangeSpec := { name := "fnExactCheckWeb", fn := fun _ => fun
  | [d] => { results := [.lit (.bool true)], args := [d] }
  | _ => none }
def fnExactCheckWebRow : OpenClaim := { program := "ytfefmblinceneaa", sum := "c74d5aec7d43461ab178c9c5a1205e4ff507b49ab11ff835749de452fab9ec54", func := "loop.example/kilnweb/laws.FnExactCheckWeb", spec := "fnExactCheckWeb", apart := false }
def FnExactCheckWebSaid : Prop := fnExactCheckWebRow.holds Try.pinned (OpenSpec.ofChange fnExactCheckWebSpec)

/-- ITS FALSE NEIGHBOUR: 'it returns false'. Refute it at one input. -/
def fnExactCheckWebWrong : ChangeSpec := { name := "fnExactCheckWeb", fn := fun _ => fun
  | [d] => { results := [.lit (.bool false)], args := [d] }
  | _ => none }
def FnExactCheckWebWrongFalsely : Prop := fnExactCheckWebRow.holds Try.pinned (OpenSpec.ofChange fnExactCheckWebWrong)

/-- 'laws.FnExactGoOn': WHATEVER THE INPUT: true; the input reads as it did. -/
def fnExactGoOnSpec : ChangeSpec := { name := "fnExactGoOn", fn := fun _ => fun
  | [d1, d2, d3] => { results := [.lit (.bool true)], args := [d1, d2, d3] }
  | _ => none }
def fnExactGoOnRow : OpenClaim := { program := "ytfefmblinceneaa", sum := "c74d5aec7d43461ab178c9c5a1205e4ff507b49ab11ff835749de452fab9ec54", func := "loop.example/kilnweb/laws.FnExactGoOn", spec := "fnExactGoOn", apart := false }
def FnExactGoOnSaid : Prop := fnExactGoOnRow.holds Try.pinned (OpenSpec.ofChange fnExactGoOnSpec)

/-- ITS FALSE NEIGHBOUR: 'it returns false'. Refute it at one input. -/
def fnExactGoOnWrong : ChangeSpec := { name := "fnExactGoOn", fn := fun _ => fun
  | [d1, d2, d3] => { results := [.lit (.bool false)], args := [d1, d2, d3] }
  | _ => none }
def FnExactGoOnWrongFalsely : Prop := fnExactGoOnRow.holds Try.pinned (OpenSpec.ofChange fnExactGoOnWrong)

/- THE SECOND FORM. 'bulk': how many values and letters a reading holds, each counted each time it is reached (what is shared counts as often as it is met; a slice's spare places count too). A statement '..UptoSaid' is the law's where the arguments, and the package variables that the reading takes, are together of bulk at most 1048576: NARROWER than '..Said'. Prove '..Said' where nothing that the law and all that it calls make is longer than what came in: it says more and counts as full. Else prove '..UptoSaid'. A law counts once. -/
mutual
def uptoBulk {H : Type} : DataW H → Nat
  | .lit (.string bytes) => bytes.length + 1
  | .lit _ => 1
  | .nil => 1
  | .ptr d => uptoBulk d + 1
  | .slice elems spare => uptoBulkAll elems + uptoBulkAll spare + 1
  | .agg parts => uptoBulkAll parts + 1
  | .iface _ d => uptoBulk d + 1
  | .map entries => uptoBulkEntries entries + 1
  | .held _ => 1
def uptoBulkAll {H : Type} : List (DataW H) → Nat
  | [] => 0
  | d :: r => uptoBulk d + uptoBulkAll r
def uptoBulkEntries {H : Type} : List (Lit × DataW H) → Nat
  | [] => 0
  | x :: r => uptoBulkEntry x + uptoBulkEntries r
def uptoBulkEntry {H : Type} : Lit × DataW H → Nat
  | (.string bytes, d) => bytes.length + uptoBulk d + 1
  | (_, d) => uptoBulk d + 1
 end
def uptoSmall : (H : Type) → List (DataW H) → Bool := fun _ ds => decide (uptoBulkAll ds ≤ 1048576)
def OpenSpec.upto (s : _root_.Go.ChangeSpec) : _root_.Go.OpenSpec := { _root_.Go.OpenSpec.ofChange s with cond := some uptoSmall }

/-- 'laws.FnExactConstants', WHERE WHAT IT READS IS OF BULK AT MOST 1048576: true; the input reads as it did. -/
def fnExactConstantsUptoRow : OpenClaim := { program := "ytfefmblinceneaa", sum := "c74d5aec7d43461ab178c9c5a1205e4ff507b49ab11ff835749de452fab9ec54", func := "loop.example/kilnweb/laws.FnExactConstants", spec := "fnExactConstants", apart := false, narrowed := true }
def FnExactConstantsUptoSaid : Prop := fnExactConstantsUptoRow.holds Try.pinned (OpenSpec.upto fnExactConstantsSpec)

/-- 'laws.FnExactValidAction', WHERE WHAT IT READS IS OF BULK AT MOST 1048576: true; the input reads as it did. -/
def fnExactValidActionUptoRow : OpenClaim := { program := "ytfefmblinceneaa", sum := "c74d5aec7d43461ab178c9c5a1205e4ff507b49ab11ff835749de452fab9ec54", func := "loop.example/kilnweb/laws.FnExactValidAction", spec := "fnExactValidAction", apart := false, narrowed := true }
def FnExactValidActionUptoSaid : Prop := fnExactValidActionUptoRow.holds Try.pinned (OpenSpec.upto fnExactValidActionSpec)

/-- 'laws.FnExactCheckWeb', WHERE WHAT IT READS IS OF BULK AT MOST 1048576: true; the input reads as it did. -/
def fnExactCheckWebUptoRow : OpenClaim := { program := "ytfefmblinceneaa", sum := "c74d5aec7d43461ab178c9c5a1205e4ff507b49ab11ff835749de452fab9ec54", func := "loop.example/kilnweb/laws.FnExactCheckWeb", spec := "fnExactCheckWeb", apart := false, narrowed := true }
def FnExactCheckWebUptoSaid : Prop := fnExactCheckWebUptoRow.holds Try.pinned (OpenSpec.upto fnExactCheckWebSpec)

/-- 'laws.FnExactGoOn', WHERE WHAT IT READS IS OF BULK AT MOST 1048576: true; the input reads as it did. -/
def fnExactGoOnUptoRow : OpenClaim := { program := "ytfefmblinceneaa", sum := "c74d5aec7d43461ab178c9c5a1205e4ff507b49ab11ff835749de452fab9ec54", func := "loop.example/kilnweb/laws.FnExactGoOn", spec := "fnExactGoOn", apart := false, narrowed := true }
def FnExactGoOnUptoSaid : Prop := fnExactGoOnUptoRow.holds Try.pinned (OpenSpec.upto fnExactGoOnSpec)

end Rows
end Go.Proofs.Ytfefmblinceneaa
