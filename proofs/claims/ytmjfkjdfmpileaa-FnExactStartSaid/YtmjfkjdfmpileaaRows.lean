/-
  No cell of these rows narrows 'for every input' (looked for: loops, veiled, ifaces, maps, wideKeys, modest, calm, conditions, laid).
  DERIVED. THE GIVEN ROWS OF THIS SEAT. 4 by the template 'for every input the law returns true; each argument reads behind the call as it read before'; 0 by the template 'total and deterministic' (their statements: YtmjfkjdfmpileaaTotals.lean).
  GIVEN WITH THE SEED: the statements are not yours to turn. If you find one false, say at which input.
  Laid BY PROGRAM, IN A SANDBOX (cutbox-rows.mjs): the forced cells as the released guide's own fill.sh prints them over the translation 057609ff165c8411… (all of the seat's roots in one cut). By AI agents, Wed Nov 11 2026. No macro, syntax, notation, axiom, sorry.
-/
import Derived.Test.YtmjfkjdfmpileaaChecked
import GoSem.Claim
import GoSem.ClaimJoined
import GoSem.ClaimMapViews
import Derived.JoinedTies
import Derived.KernelRfl
namespace Go.Proofs.Ytmjfkjdfmpileaa
/- THE CELL 'sum', in the pinned program and in every row, IS THE sha256 OF THE DUMP (.gsa) THAT YtmjfkjdfmpileaaProg.lean LOADS. Nothing in Lean hashes anything: it is a label: what it is worth is what the hold of that sum in a sandbox is worth. -/
noncomputable def Try.pinned : Pinned := { name := "ytmjfkjdfmpileaa", sum := "057609ff165c8411fb174d230a22f251f0a5399c34d20bf5dea06422db206287", checked := Try.checked }
namespace Rows
def none {H : Type} : Left H := { results := [], args := [] }

/-- 'laws.FnExactDropNode': WHATEVER THE INPUT: true; the input reads as it did. -/
def fnExactDropNodeSpec : ChangeSpec := { name := "fnExactDropNode", fn := fun _ => fun
  | [d1, d2] => { results := [.lit (.bool true)], args := [d1, d2] }
  | _ => none }
def fnExactDropNodeRow : OpenClaim := { program := "ytmjfkjdfmpileaa", sum := "057609ff165c8411fb174d230a22f251f0a5399c34d20bf5dea06422db206287", func := "loop.example/kilnweb/laws.FnExactDropNode", spec := "fnExactDropNode", unfollowed := true, recurses := true, apart := false }
def FnExactDropNodeSaid : Prop := fnExactDropNodeRow.holds Try.pinned (OpenSpec.ofChange fnExactDropNodeSpec)

/-- ITS FALSE NEIGHBOUR: 'it returns false'. Refute it at one input. -/
def fnExactDropNodeWrong : ChangeSpec := { name := "fnExactDropNode", fn := fun _ => fun
  | [d1, d2] => { results := [.lit (.bool false)], args := [d1, d2] }
  | _ => none }
def FnExactDropNodeWrongFalsely : Prop := fnExactDropNodeRow.holds Try.pinned (OpenSpec.ofChange fnExactDropNodeWrong)

/-- 'laws.FnExactPutNode': WHATEVER THE INPUT: true; the input reads as it did. -/
def fnExactPutNodeSpec : ChangeSpec := { name := "fnExactPutNode", fn := fun _ => fun
  | [d1, d2] => { results := [.lit (.bool true)], args := [d1, d2] }
  | _ => none }
def fnExactPutNodeRow : OpenClaim := { program := "ytmjfkjdfmpileaa", sum := "057609ff165c8411fb174d230a22f251f0a5399c34d20bf5dea06422db206287", func := "loop.example/kilnweb/laws.FnExactPutNode", spec := "fnExactPutNode", unfollowed := true, recurses := true, apart := false }
def FnExactPutNodeSaid : Prop := fnExactPutNodeRow.holds Try.pinned (OpenSpec.ofChange fnExactPutNodeSpec)

/-- ITS FALSE NEIGHBOUR: 'it returns false'. Refute it at one input. -/
def fnExactPutNodeWrong : ChangeSpec := { name := "fnExactPutNode", fn := fun _ => fun
  | [d1, d2] => { results := [.lit (.bool false)], args := [d1, d2] }
  | _ => none }
def FnExactPutNodeWrongFalsely : Prop := fnExactPutNodeRow.holds Try.pinned (OpenSpec.ofChange fnExactPutNodeWrong)

/-- 'laws.FnEdits': WHATEVER THE INPUT: true; the input reads as it did. -/
def fnEditsSpec : ChangeSpec := { name := "fnEdits", fn := fun _ => fun
  | [d] => { results := [.lit (.bool true)], args := [d] }
  | _ => none }
def fnEditsRow : OpenClaim := { program := "ytmjfkjdfmpileaa", sum := "057609ff165c8411fb174d230a22f251f0a5399c34d20bf5dea06422db206287", func := "loop.example/kilnweb/laws.FnEdits", spec := "fnEdits", unfollowed := true, recurses := true, apart := false }
def FnEditsSaid : Prop := fnEditsRow.holds Try.pinned (OpenSpec.ofChange fnEditsSpec)

/-- ITS FALSE NEIGHBOUR: 'it returns false'. Refute it at one input. -/
def fnEditsWrong : ChangeSpec := { name := "fnEdits", fn := fun _ => fun
  | [d] => { results := [.lit (.bool false)], args := [d] }
  | _ => none }
def FnEditsWrongFalsely : Prop := fnEditsRow.holds Try.pinned (OpenSpec.ofChange fnEditsWrong)

/-- 'laws.FnExactStart': WHATEVER THE INPUT: true; the input reads as it did. -/
def fnExactStartSpec : ChangeSpec := { name := "fnExactStart", fn := fun _ => fun
  | [d1, d2] => { results := [.lit (.bool true)], args := [d1, d2] }
  | _ => none }
def fnExactStartRow : OpenClaim := { program := "ytmjfkjdfmpileaa", sum := "057609ff165c8411fb174d230a22f251f0a5399c34d20bf5dea06422db206287", func := "loop.example/kilnweb/laws.FnExactStart", spec := "fnExactStart", unfollowed := true, recurses := true, apart := false }
def FnExactStartSaid : Prop := fnExactStartRow.holds Try.pinned (OpenSpec.ofChange fnExactStartSpec)

/-- ITS FALSE NEIGHBOUR: 'it returns false'. Refute it at one input. -/
def fnExactStartWrong : ChangeSpec := { name := "fnExactStart", fn := fun _ => fun
  | [d1, d2] => { results := [.lit (.bool false)], args := [d1, d2] }
  | _ => none }
def FnExactStartWrongFalsely : Prop := fnExactStartRow.holds Try.pinned (OpenSpec.ofChange fnExactStartWrong)

/- THE SECOND FORM. 'bulk': how many values and letters a reading holds, each counted each time it is reached (what is shared counts as often as it is met; a slice's spare places count too). A statement '..UptoSaid' is the law's where the arguments, and the package variables that the reading takes, are together of bulk at most 1048576: NARROWER than '..Said'. Prove '..Said' where nothing that the law and all that it calls make is longer than what came in: it says more and counts as full. Else prove '..UptoSaid'. A law counts once. -/
mutual
def uptoBulk {H : Type} : DataW H → Nat
  | .lit (.string bytes) => bytes.length + 1
  | .lit _ => 1
  | .nil => 1
  | .ptr d => uptoBulk d + 1
  | .slice elems spare => uptoBulkAll elems + uptoBulkAll spare + 1
  | .agg parts => uptoBulkAll parts + 1
  | .iface _ d => uptoBulk d + 1
  | .map entries => uptoBulkEntries entries + 1
  | .held _ => 1
def uptoBulkAll {H : Type} : List (DataW H) → Nat
  | [] => 0
  | d :: r => uptoBulk d + uptoBulkAll r
def uptoBulkEntries {H : Type} : List (Lit × DataW H) → Nat
  | [] => 0
  | x :: r => uptoBulkEntry x + uptoBulkEntries r
def uptoBulkEntry {H : Type} : Lit × DataW H → Nat
  | (.string bytes, d) => bytes.length + uptoBulk d + 1
  | (_, d) => uptoBulk d + 1
 end
def uptoSmall : (H : Type) → List (DataW H) → Bool := fun _ ds => decide (uptoBulkAll ds ≤ 1048576)
def OpenSpec.upto (s : _root_.Go.ChangeSpec) : _root_.Go.OpenSpec := { _root_.Go.OpenSpec.ofChange s with cond := some uptoSmall }

/-- 'laws.FnExactDropNode', WHERE WHAT IT READS IS OF BULK AT MOST 1048576: true; the input reads as it did. -/
def fnExactDropNodeUptoRow : OpenClaim := { program := "ytmjfkjdfmpileaa", sum := "057609ff165c8411fb174d230a22f251f0a5399c34d20bf5dea06422db206287", func := "loop.example/kilnweb/laws.FnExactDropNode", spec := "fnExactDropNode", unfollowed := true, recurses := true, apart := false, narrowed := true }
def FnExactDropNodeUptoSaid : Prop := fnExactDropNodeUptoRow.holds Try.pinned (OpenSpec.upto fnExactDropNodeSpec)

/-- 'laws.FnExactPutNode', WHERE WHAT IT READS IS OF BULK AT MOST 1048576: true; the input reads as it did. -/
def fnExactPutNodeUptoRow : OpenClaim := { program := "ytmjfkjdfmpileaa", sum := "057609ff165c8411fb174d230a22f251f0a5399c34d20bf5dea06422db206287", func := "loop.example/kilnweb/laws.FnExactPutNode", spec := "fnExactPutNode", unfollowed := true, recurses := true, apart := false, narrowed := true }
def FnExactPutNodeUptoSaid : Prop := fnExactPutNodeUptoRow.holds Try.pinned (OpenSpec.upto fnExactPutNodeSpec)

/-- 'laws.FnEdits', WHERE WHAT IT READS IS OF BULK AT MOST 1048576: true; the input reads as it did. -/
def fnEditsUptoRow : OpenClaim := { program := "ytmjfkjdfmpileaa", sum := "057609ff165c8411fb174d230a22f251f0a5399c34d20bf5dea06422db206287", func := "loop.example/kilnweb/laws.FnEdits", spec := "fnEdits", unfollowed := true, recurses := true, apart := false, narrowed := true }
def FnEditsUptoSaid : Prop := fnEditsUptoRow.holds Try.pinned (OpenSpec.upto fnEditsSpec)

/-- 'laws.FnExactStart', WHERE WHAT IT READS IS OF BULK AT MOST 1048576: true; the input reads as it did. -/
def fnExactStartUptoRow : OpenClaim := { program := "ytmjfkjdfmpileaa", sum := "057609ff165c8411fb174d230a22f251f0a5399c34d20bf5dea06422db206287", func := "loop.example/kilnweb/laws.FnExactStart", spec := "fnExactStart", unfollowed := true, recurses := true, apart := false, narrowed := true }
def FnExactStartUptoSaid : Prop := fnExactStartUptoRow.holds Try.pinned (OpenSpec.upto fnExactStartSpec)

end Rows
end Go.Proofs.Ytmjfkjdfmpileaa
