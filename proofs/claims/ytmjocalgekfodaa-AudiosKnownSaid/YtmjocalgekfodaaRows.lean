/-
  No cell of these rows narrows 'for every input' (looked for: loops, veiled, ifaces, maps, wideKeys, modest, calm, conditions, laid).
  DERIVED. THE GIVEN ROWS OF THIS SEAT. 9 by the template 'for every input the law returns true; each argument reads behind the call as it read before'; 0 by the template 'total and deterministic' (their statements: YtmjocalgekfodaaTotals.lean).
  GIVEN WITH THE SEED: the statements are not yours to turn. If you find one false, say at which input.
  Laid BY PROGRAM, IN A SANDBOX (cutbox-rows.mjs): the forced cells as the released guide's own fill.sh prints them over the translation 2d4ac9472752b32a… (all of the seat's roots in one cut). By AI agents, Wed Nov 11 2026. No macro, syntax, notation, axiom, sorry.
-/
import Derived.Test.YtmjocalgekfodaaChecked
import GoSem.Claim
import GoSem.ClaimJoined
import GoSem.ClaimMapViews
import Derived.JoinedTies
import Derived.KernelRfl
namespace Go.Proofs.Ytmjocalgekfodaa
/- THE CELL 'sum', in the pinned program and in every row, IS THE sha256 OF THE DUMP (.gsa) THAT YtmjocalgekfodaaProg.lean LOADS. Nothing in Lean hashes anything: it is a label: what it is worth is what the hold of that sum in a sandbox is worth. -/
noncomputable def Try.pinned : Pinned := { name := "ytmjocalgekfodaa", sum := "2d4ac9472752b32a9139ad85584f6915b1b8d6142a0eabdfce091ba1a19a6662", checked := Try.checked }
namespace Rows
def none {H : Type} : Left H := { results := [], args := [] }

/-- 'plugboardlaw02.ChecksLong': WHATEVER THE INPUT: true; the input reads as it did. -/
def checksLongSpec : ChangeSpec := { name := "checksLong", fn := fun _ => fun
  | [d1, d2, d3] => { results := [.lit (.bool true)], args := [d1, d2, d3] }
  | _ => none }
def checksLongRow : OpenClaim := { program := "ytmjocalgekfodaa", sum := "2d4ac9472752b32a9139ad85584f6915b1b8d6142a0eabdfce091ba1a19a6662", func := "plugboard/plugboardlaw02.ChecksLong", spec := "checksLong", unfollowed := true, recurses := true, apart := false }
def ChecksLongSaid : Prop := checksLongRow.holds Try.pinned (OpenSpec.ofChange checksLongSpec)

/-- ITS FALSE NEIGHBOUR: 'it returns false'. Refute it at one input. -/
def checksLongWrong : ChangeSpec := { name := "checksLong", fn := fun _ => fun
  | [d1, d2, d3] => { results := [.lit (.bool false)], args := [d1, d2, d3] }
  | _ => none }
def ChecksLongWrongFalsely : Prop := checksLongRow.holds Try.pinned (OpenSpec.ofChange checksLongWrong)

/-- 'plugboardlaw42.AudiosRun': WHATEVER THE INPUT: true; the input reads as it did. -/
def audiosRunSpec : ChangeSpec := { name := "audiosRun", fn := fun _ => fun
  | [d1, d2, d3] => { results := [.lit (.bool true)], args := [d1, d2, d3] }
  | _ => none }
def audiosRunRow : OpenClaim := { program := "ytmjocalgekfodaa", sum := "2d4ac9472752b32a9139ad85584f6915b1b8d6142a0eabdfce091ba1a19a6662", func := "plugboard/plugboardlaw42.AudiosRun", spec := "audiosRun", unfollowed := true, recurses := true, apart := false }
def AudiosRunSaid : Prop := audiosRunRow.holds Try.pinned (OpenSpec.ofChange audiosRunSpec)

/-- ITS FALSE NEIGHBOUR: 'it returns false'. Refute it at one input. -/
def audiosRunWrong : ChangeSpec := { name := "audiosRun", fn := fun _ => fun
  | [d1, d2, d3] => { results := [.lit (.bool false)], args := [d1, d2, d3] }
  | _ => none }
def AudiosRunWrongFalsely : Prop := audiosRunRow.holds Try.pinned (OpenSpec.ofChange audiosRunWrong)

/-- 'plugboardlaw42.AudiosKeep': WHATEVER THE INPUT: true; the input reads as it did. -/
def audiosKeepSpec : ChangeSpec := { name := "audiosKeep", fn := fun _ => fun
  | [d1, d2, d3] => { results := [.lit (.bool true)], args := [d1, d2, d3] }
  | _ => none }
def audiosKeepRow : OpenClaim := { program := "ytmjocalgekfodaa", sum := "2d4ac9472752b32a9139ad85584f6915b1b8d6142a0eabdfce091ba1a19a6662", func := "plugboard/plugboardlaw42.AudiosKeep", spec := "audiosKeep", unfollowed := true, recurses := true, apart := false }
def AudiosKeepSaid : Prop := audiosKeepRow.holds Try.pinned (OpenSpec.ofChange audiosKeepSpec)

/-- ITS FALSE NEIGHBOUR: 'it returns false'. Refute it at one input. -/
def audiosKeepWrong : ChangeSpec := { name := "audiosKeep", fn := fun _ => fun
  | [d1, d2, d3] => { results := [.lit (.bool false)], args := [d1, d2, d3] }
  | _ => none }
def AudiosKeepWrongFalsely : Prop := audiosKeepRow.holds Try.pinned (OpenSpec.ofChange audiosKeepWrong)

/-- 'plugboardlaw42.AudiosKnown': WHATEVER THE INPUT: true; the input reads as it did. -/
def audiosKnownSpec : ChangeSpec := { name := "audiosKnown", fn := fun _ => fun
  | [] => { results := [.lit (.bool true)], args := [] }
  | _ => none }
def audiosKnownRow : OpenClaim := { program := "ytmjocalgekfodaa", sum := "2d4ac9472752b32a9139ad85584f6915b1b8d6142a0eabdfce091ba1a19a6662", func := "plugboard/plugboardlaw42.AudiosKnown", spec := "audiosKnown", unfollowed := true, recurses := true, apart := false }
def AudiosKnownSaid : Prop := audiosKnownRow.holds Try.pinned (OpenSpec.ofChange audiosKnownSpec)

/-- ITS FALSE NEIGHBOUR: 'it returns false'. Refute it at one input. -/
def audiosKnownWrong : ChangeSpec := { name := "audiosKnown", fn := fun _ => fun
  | [] => { results := [.lit (.bool false)], args := [] }
  | _ => none }
def AudiosKnownWrongFalsely : Prop := audiosKnownRow.holds Try.pinned (OpenSpec.ofChange audiosKnownWrong)

/-- 'plugboardlaw09.BulksCut': WHATEVER THE INPUT: true; the input reads as it did. -/
def bulksCutSpec : ChangeSpec := { name := "bulksCut", fn := fun _ => fun
  | [d1, d2, d3] => { results := [.lit (.bool true)], args := [d1, d2, d3] }
  | _ => none }
def bulksCutRow : OpenClaim := { program := "ytmjocalgekfodaa", sum := "2d4ac9472752b32a9139ad85584f6915b1b8d6142a0eabdfce091ba1a19a6662", func := "plugboard/plugboardlaw09.BulksCut", spec := "bulksCut", unfollowed := true, recurses := true, apart := false }
def BulksCutSaid : Prop := bulksCutRow.holds Try.pinned (OpenSpec.ofChange bulksCutSpec)

/-- ITS FALSE NEIGHBOUR: 'it returns false'. Refute it at one input. -/
def bulksCutWrong : ChangeSpec := { name := "bulksCut", fn := fun _ => fun
  | [d1, d2, d3] => { results := [.lit (.bool false)], args := [d1, d2, d3] }
  | _ => none }
def BulksCutWrongFalsely : Prop := bulksCutRow.holds Try.pinned (OpenSpec.ofChange bulksCutWrong)

/-- 'plugboardlaw09.BulksJoin': WHATEVER THE INPUT: true; the input reads as it did. -/
def bulksJoinSpec : ChangeSpec := { name := "bulksJoin", fn := fun _ => fun
  | [d1, d2] => { results := [.lit (.bool true)], args := [d1, d2] }
  | _ => none }
def bulksJoinRow : OpenClaim := { program := "ytmjocalgekfodaa", sum := "2d4ac9472752b32a9139ad85584f6915b1b8d6142a0eabdfce091ba1a19a6662", func := "plugboard/plugboardlaw09.BulksJoin", spec := "bulksJoin", unfollowed := true, recurses := true, apart := false }
def BulksJoinSaid : Prop := bulksJoinRow.holds Try.pinned (OpenSpec.ofChange bulksJoinSpec)

/-- ITS FALSE NEIGHBOUR: 'it returns false'. Refute it at one input. -/
def bulksJoinWrong : ChangeSpec := { name := "bulksJoin", fn := fun _ => fun
  | [d1, d2] => { results := [.lit (.bool false)], args := [d1, d2] }
  | _ => none }
def BulksJoinWrongFalsely : Prop := bulksJoinRow.holds Try.pinned (OpenSpec.ofChange bulksJoinWrong)

/-- 'plugboardlaw09.BulksStart': WHATEVER THE INPUT: true; the input reads as it did. -/
def bulksStartSpec : ChangeSpec := { name := "bulksStart", fn := fun _ => fun
  | [d1, d2] => { results := [.lit (.bool true)], args := [d1, d2] }
  | _ => none }
def bulksStartRow : OpenClaim := { program := "ytmjocalgekfodaa", sum := "2d4ac9472752b32a9139ad85584f6915b1b8d6142a0eabdfce091ba1a19a6662", func := "plugboard/plugboardlaw09.BulksStart", spec := "bulksStart", unfollowed := true, recurses := true, apart := false }
def BulksStartSaid : Prop := bulksStartRow.holds Try.pinned (OpenSpec.ofChange bulksStartSpec)

/-- ITS FALSE NEIGHBOUR: 'it returns false'. Refute it at one input. -/
def bulksStartWrong : ChangeSpec := { name := "bulksStart", fn := fun _ => fun
  | [d1, d2] => { results := [.lit (.bool false)], args := [d1, d2] }
  | _ => none }
def BulksStartWrongFalsely : Prop := bulksStartRow.holds Try.pinned (OpenSpec.ofChange bulksStartWrong)

/-- 'plugboardlaw05.TogglesRun': WHATEVER THE INPUT: true; the input reads as it did. -/
def togglesRunSpec : ChangeSpec := { name := "togglesRun", fn := fun _ => fun
  | [d1, d2, d3] => { results := [.lit (.bool true)], args := [d1, d2, d3] }
  | _ => none }
def togglesRunRow : OpenClaim := { program := "ytmjocalgekfodaa", sum := "2d4ac9472752b32a9139ad85584f6915b1b8d6142a0eabdfce091ba1a19a6662", func := "plugboard/plugboardlaw05.TogglesRun", spec := "togglesRun", unfollowed := true, recurses := true, apart := false }
def TogglesRunSaid : Prop := togglesRunRow.holds Try.pinned (OpenSpec.ofChange togglesRunSpec)

/-- ITS FALSE NEIGHBOUR: 'it returns false'. Refute it at one input. -/
def togglesRunWrong : ChangeSpec := { name := "togglesRun", fn := fun _ => fun
  | [d1, d2, d3] => { results := [.lit (.bool false)], args := [d1, d2, d3] }
  | _ => none }
def TogglesRunWrongFalsely : Prop := togglesRunRow.holds Try.pinned (OpenSpec.ofChange togglesRunWrong)

/-- 'plugboardlaw05.TogglesSteps': WHATEVER THE INPUT: true; the input reads as it did. -/
def togglesStepsSpec : ChangeSpec := { name := "togglesSteps", fn := fun _ => fun
  | [d1, d2, d3] => { results := [.lit (.bool true)], args := [d1, d2, d3] }
  | _ => none }
def togglesStepsRow : OpenClaim := { program := "ytmjocalgekfodaa", sum := "2d4ac9472752b32a9139ad85584f6915b1b8d6142a0eabdfce091ba1a19a6662", func := "plugboard/plugboardlaw05.TogglesSteps", spec := "togglesSteps", unfollowed := true, recurses := true, apart := false }
def TogglesStepsSaid : Prop := togglesStepsRow.holds Try.pinned (OpenSpec.ofChange togglesStepsSpec)

/-- ITS FALSE NEIGHBOUR: 'it returns false'. Refute it at one input. -/
def togglesStepsWrong : ChangeSpec := { name := "togglesSteps", fn := fun _ => fun
  | [d1, d2, d3] => { results := [.lit (.bool false)], args := [d1, d2, d3] }
  | _ => none }
def TogglesStepsWrongFalsely : Prop := togglesStepsRow.holds Try.pinned (OpenSpec.ofChange togglesStepsWrong)

/- THE SECOND FORM. 'bulk': how many values and letters a reading holds, each counted each time it is reached (what is shared counts as often as it is met; a slice's spare places count too). A statement '..UptoSaid' is the law's where the arguments, and the package variables that the reading takes, are together of bulk at most 1048576: NARROWER than '..Said'. Prove '..Said' where nothing that the law and all that it calls make is longer than what came in: it says more and counts as full. Else prove '..UptoSaid'. A law counts once. -/
mutual
def uptoBulk {H : Type} : DataW H → Nat
  | .lit (.string bytes) => bytes.length + 1
  | .lit _ => 1
  | .nil => 1
  | .ptr d => uptoBulk d + 1
  | .slice elems spare => uptoBulkAll elems + uptoBulkAll spare + 1
  | .agg parts => uptoBulkAll parts + 1
  | .iface _ d => uptoBulk d + 1
  | .map entries => uptoBulkEntries entries + 1
  | .held _ => 1
def uptoBulkAll {H : Type} : List (DataW H) → Nat
  | [] => 0
  | d :: r => uptoBulk d + uptoBulkAll r
def uptoBulkEntries {H : Type} : List (Lit × DataW H) → Nat
  | [] => 0
  | x :: r => uptoBulkEntry x + uptoBulkEntries r
def uptoBulkEntry {H : Type} : Lit × DataW H → Nat
  | (.string bytes, d) => bytes.length + uptoBulk d + 1
  | (_, d) => uptoBulk d + 1
 end
def uptoSmall : (H : Type) → List (DataW H) → Bool := fun _ ds => decide (uptoBulkAll ds ≤ 1048576)
def OpenSpec.upto (s : _root_.Go.ChangeSpec) : _root_.Go.OpenSpec := { _root_.Go.OpenSpec.ofChange s with cond := some uptoSmall }

/-- 'plugboardlaw02.ChecksLong', WHERE WHAT IT READS IS OF BULK AT MOST 1048576: true; the input reads as it did. -/
def checksLongUptoRow : OpenClaim := { program := "ytmjocalgekfodaa", sum := "2d4ac9472752b32a9139ad85584f6915b1b8d6142a0eabdfce091ba1a19a6662", func := "plugboard/plugboardlaw02.ChecksLong", spec := "checksLong", unfollowed := true, recurses := true, apart := false, narrowed := true }
def ChecksLongUptoSaid : Prop := checksLongUptoRow.holds Try.pinned (OpenSpec.upto checksLongSpec)

/-- 'plugboardlaw42.AudiosRun', WHERE WHAT IT READS IS OF BULK AT MOST 1048576: true; the input reads as it did. -/
def audiosRunUptoRow : OpenClaim := { program := "ytmjocalgekfodaa", sum := "2d4ac9472752b32a9139ad85584f6915b1b8d6142a0eabdfce091ba1a19a6662", func := "plugboard/plugboardlaw42.AudiosRun", spec := "audiosRun", unfollowed := true, recurses := true, apart := false, narrowed := true }
def AudiosRunUptoSaid : Prop := audiosRunUptoRow.holds Try.pinned (OpenSpec.upto audiosRunSpec)

/-- 'plugboardlaw42.AudiosKeep', WHERE WHAT IT READS IS OF BULK AT MOST 1048576: true; the input reads as it did. -/
def audiosKeepUptoRow : OpenClaim := { program := "ytmjocalgekfodaa", sum := "2d4ac9472752b32a9139ad85584f6915b1b8d6142a0eabdfce091ba1a19a6662", func := "plugboard/plugboardlaw42.AudiosKeep", spec := "audiosKeep", unfollowed := true, recurses := true, apart := false, narrowed := true }
def AudiosKeepUptoSaid : Prop := audiosKeepUptoRow.holds Try.pinned (OpenSpec.upto audiosKeepSpec)

/-- 'plugboardlaw42.AudiosKnown', WHERE WHAT IT READS IS OF BULK AT MOST 1048576: true; the input reads as it did. -/
def audiosKnownUptoRow : OpenClaim := { program := "ytmjocalgekfodaa", sum := "2d4ac9472752b32a9139ad85584f6915b1b8d6142a0eabdfce091ba1a19a6662", func := "plugboard/plugboardlaw42.AudiosKnown", spec := "audiosKnown", unfollowed := true, recurses := true, apart := false, narrowed := true }
def AudiosKnownUptoSaid : Prop := audiosKnownUptoRow.holds Try.pinned (OpenSpec.upto audiosKnownSpec)

/-- 'plugboardlaw09.BulksCut', WHERE WHAT IT READS IS OF BULK AT MOST 1048576: true; the input reads as it did. -/
def bulksCutUptoRow : OpenClaim := { program := "ytmjocalgekfodaa", sum := "2d4ac9472752b32a9139ad85584f6915b1b8d6142a0eabdfce091ba1a19a6662", func := "plugboard/plugboardlaw09.BulksCut", spec := "bulksCut", unfollowed := true, recurses := true, apart := false, narrowed := true }
def BulksCutUptoSaid : Prop := bulksCutUptoRow.holds Try.pinned (OpenSpec.upto bulksCutSpec)

/-- 'plugboardlaw09.BulksJoin', WHERE WHAT IT READS IS OF BULK AT MOST 1048576: true; the input reads as it did. -/
def bulksJoinUptoRow : OpenClaim := { program := "ytmjocalgekfodaa", sum := "2d4ac9472752b32a9139ad85584f6915b1b8d6142a0eabdfce091ba1a19a6662", func := "plugboard/plugboardlaw09.BulksJoin", spec := "bulksJoin", unfollowed := true, recurses := true, apart := false, narrowed := true }
def BulksJoinUptoSaid : Prop := bulksJoinUptoRow.holds Try.pinned (OpenSpec.upto bulksJoinSpec)

/-- 'plugboardlaw09.BulksStart', WHERE WHAT IT READS IS OF BULK AT MOST 1048576: true; the input reads as it did. -/
def bulksStartUptoRow : OpenClaim := { program := "ytmjocalgekfodaa", sum := "2d4ac9472752b32a9139ad85584f6915b1b8d6142a0eabdfce091ba1a19a6662", func := "plugboard/plugboardlaw09.BulksStart", spec := "bulksStart", unfollowed := true, recurses := true, apart := false, narrowed := true }
def BulksStartUptoSaid : Prop := bulksStartUptoRow.holds Try.pinned (OpenSpec.upto bulksStartSpec)

/-- 'plugboardlaw05.TogglesRun', WHERE WHAT IT READS IS OF BULK AT MOST 1048576: true; the input reads as it did. -/
def togglesRunUptoRow : OpenClaim := { program := "ytmjocalgekfodaa", sum := "2d4ac9472752b32a9139ad85584f6915b1b8d6142a0eabdfce091ba1a19a6662", func := "plugboard/plugboardlaw05.TogglesRun", spec := "togglesRun", unfollowed := true, recurses := true, apart := false, narrowed := true }
def TogglesRunUptoSaid : Prop := togglesRunUptoRow.holds Try.pinned (OpenSpec.upto togglesRunSpec)

/-- 'plugboardlaw05.TogglesSteps', WHERE WHAT IT READS IS OF BULK AT MOST 1048576: true; the input reads as it did. -/
def togglesStepsUptoRow : OpenClaim := { program := "ytmjocalgekfodaa", sum := "2d4ac9472752b32a9139ad85584f6915b1b8d6142a0eabdfce091ba1a19a6662", func := "plugboard/plugboardlaw05.TogglesSteps", spec := "togglesSteps", unfollowed := true, recurses := true, apart := false, narrowed := true }
def TogglesStepsUptoSaid : Prop := togglesStepsUptoRow.holds Try.pinned (OpenSpec.upto togglesStepsSpec)

end Rows
end Go.Proofs.Ytmjocalgekfodaa
