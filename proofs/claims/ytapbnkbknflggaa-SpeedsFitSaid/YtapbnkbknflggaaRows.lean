/-
  No cell of these rows narrows 'for every input' (looked for: loops, veiled, ifaces, maps, wideKeys, modest, calm, conditions, laid).
  DERIVED. THE GIVEN ROWS OF THIS SEAT. 10 by the template 'for every input the law returns true; each argument reads behind the call as it read before'; 0 by the template 'total and deterministic' (their statements: YtapbnkbknflggaaTotals.lean).
  GIVEN WITH THE SEED: the statements are not yours to turn. If you find one false, say at which input.
  Laid BY PROGRAM, IN A SANDBOX (cutbox-rows.mjs): the forced cells as the released guide's own fill.sh prints them over the translation dc4a94867a2e812a… (all of the seat's roots in one cut). By AI agents, Wed Nov 11 2026. No macro, syntax, notation, axiom, sorry.
-/
import Derived.Test.YtapbnkbknflggaaChecked
import GoSem.Claim
import GoSem.ClaimJoined
import GoSem.ClaimMapViews
import Derived.JoinedTies
import Derived.KernelRfl
namespace Go.Proofs.Ytapbnkbknflggaa
/- THE CELL 'sum', in the pinned program and in every row, IS THE sha256 OF THE DUMP (.gsa) THAT YtapbnkbknflggaaProg.lean LOADS. Nothing in Lean hashes anything: it is a label: what it is worth is what the hold of that sum in a sandbox is worth. -/
noncomputable def Try.pinned : Pinned := { name := "ytapbnkbknflggaa", sum := "dc4a94867a2e812aee43767f32df7f0c6f541554e6d48ad57e82a6bcaa9fcd05", checked := Try.checked }
namespace Rows
def none {H : Type} : Left H := { results := [], args := [] }

/-- 'plugboardlaw04.SpeedsCost': WHATEVER THE INPUT: true; the input reads as it did. -/
def speedsCostSpec : ChangeSpec := { name := "speedsCost", fn := fun _ => fun
  | [d1, d2, d3] => { results := [.lit (.bool true)], args := [d1, d2, d3] }
  | _ => none }
def speedsCostRow : OpenClaim := { program := "ytapbnkbknflggaa", sum := "dc4a94867a2e812aee43767f32df7f0c6f541554e6d48ad57e82a6bcaa9fcd05", func := "plugboard/plugboardlaw04.SpeedsCost", spec := "speedsCost", unfollowed := true, recurses := true, apart := false }
def SpeedsCostSaid : Prop := speedsCostRow.holds Try.pinned (OpenSpec.ofChange speedsCostSpec)

/-- ITS FALSE NEIGHBOUR: 'it returns false'. Refute it at one input. -/
def speedsCostWrong : ChangeSpec := { name := "speedsCost", fn := fun _ => fun
  | [d1, d2, d3] => { results := [.lit (.bool false)], args := [d1, d2, d3] }
  | _ => none }
def SpeedsCostWrongFalsely : Prop := speedsCostRow.holds Try.pinned (OpenSpec.ofChange speedsCostWrong)

/-- 'plugboardlaw04.SpeedsSplits': WHATEVER THE INPUT: true; the input reads as it did. -/
def speedsSplitsSpec : ChangeSpec := { name := "speedsSplits", fn := fun _ => fun
  | [d1, d2, d3] => { results := [.lit (.bool true)], args := [d1, d2, d3] }
  | _ => none }
def speedsSplitsRow : OpenClaim := { program := "ytapbnkbknflggaa", sum := "dc4a94867a2e812aee43767f32df7f0c6f541554e6d48ad57e82a6bcaa9fcd05", func := "plugboard/plugboardlaw04.SpeedsSplits", spec := "speedsSplits", unfollowed := true, recurses := true, apart := false }
def SpeedsSplitsSaid : Prop := speedsSplitsRow.holds Try.pinned (OpenSpec.ofChange speedsSplitsSpec)

/-- ITS FALSE NEIGHBOUR: 'it returns false'. Refute it at one input. -/
def speedsSplitsWrong : ChangeSpec := { name := "speedsSplits", fn := fun _ => fun
  | [d1, d2, d3] => { results := [.lit (.bool false)], args := [d1, d2, d3] }
  | _ => none }
def SpeedsSplitsWrongFalsely : Prop := speedsSplitsRow.holds Try.pinned (OpenSpec.ofChange speedsSplitsWrong)

/-- 'plugboardlaw04.SpeedsBudget': WHATEVER THE INPUT: true; the input reads as it did. -/
def speedsBudgetSpec : ChangeSpec := { name := "speedsBudget", fn := fun _ => fun
  | [d] => { results := [.lit (.bool true)], args := [d] }
  | _ => none }
def speedsBudgetRow : OpenClaim := { program := "ytapbnkbknflggaa", sum := "dc4a94867a2e812aee43767f32df7f0c6f541554e6d48ad57e82a6bcaa9fcd05", func := "plugboard/plugboardlaw04.SpeedsBudget", spec := "speedsBudget", unfollowed := true, recurses := true, apart := false }
def SpeedsBudgetSaid : Prop := speedsBudgetRow.holds Try.pinned (OpenSpec.ofChange speedsBudgetSpec)

/-- ITS FALSE NEIGHBOUR: 'it returns false'. Refute it at one input. -/
def speedsBudgetWrong : ChangeSpec := { name := "speedsBudget", fn := fun _ => fun
  | [d] => { results := [.lit (.bool false)], args := [d] }
  | _ => none }
def SpeedsBudgetWrongFalsely : Prop := speedsBudgetRow.holds Try.pinned (OpenSpec.ofChange speedsBudgetWrong)

/-- 'plugboardlaw04.SpeedsFit': WHATEVER THE INPUT: true; the input reads as it did. -/
def speedsFitSpec : ChangeSpec := { name := "speedsFit", fn := fun _ => fun
  | [d1, d2, d3] => { results := [.lit (.bool true)], args := [d1, d2, d3] }
  | _ => none }
def speedsFitRow : OpenClaim := { program := "ytapbnkbknflggaa", sum := "dc4a94867a2e812aee43767f32df7f0c6f541554e6d48ad57e82a6bcaa9fcd05", func := "plugboard/plugboardlaw04.SpeedsFit", spec := "speedsFit", unfollowed := true, recurses := true, apart := false }
def SpeedsFitSaid : Prop := speedsFitRow.holds Try.pinned (OpenSpec.ofChange speedsFitSpec)

/-- ITS FALSE NEIGHBOUR: 'it returns false'. Refute it at one input. -/
def speedsFitWrong : ChangeSpec := { name := "speedsFit", fn := fun _ => fun
  | [d1, d2, d3] => { results := [.lit (.bool false)], args := [d1, d2, d3] }
  | _ => none }
def SpeedsFitWrongFalsely : Prop := speedsFitRow.holds Try.pinned (OpenSpec.ofChange speedsFitWrong)

/-- 'plugboardlaw04.SpeedsMost': WHATEVER THE INPUT: true; the input reads as it did. -/
def speedsMostSpec : ChangeSpec := { name := "speedsMost", fn := fun _ => fun
  | [d1, d2, d3] => { results := [.lit (.bool true)], args := [d1, d2, d3] }
  | _ => none }
def speedsMostRow : OpenClaim := { program := "ytapbnkbknflggaa", sum := "dc4a94867a2e812aee43767f32df7f0c6f541554e6d48ad57e82a6bcaa9fcd05", func := "plugboard/plugboardlaw04.SpeedsMost", spec := "speedsMost", unfollowed := true, recurses := true, apart := false }
def SpeedsMostSaid : Prop := speedsMostRow.holds Try.pinned (OpenSpec.ofChange speedsMostSpec)

/-- ITS FALSE NEIGHBOUR: 'it returns false'. Refute it at one input. -/
def speedsMostWrong : ChangeSpec := { name := "speedsMost", fn := fun _ => fun
  | [d1, d2, d3] => { results := [.lit (.bool false)], args := [d1, d2, d3] }
  | _ => none }
def SpeedsMostWrongFalsely : Prop := speedsMostRow.holds Try.pinned (OpenSpec.ofChange speedsMostWrong)

/-- 'plugboardlaw09.BulksCut': WHATEVER THE INPUT: true; the input reads as it did. -/
def bulksCutSpec : ChangeSpec := { name := "bulksCut", fn := fun _ => fun
  | [d1, d2, d3] => { results := [.lit (.bool true)], args := [d1, d2, d3] }
  | _ => none }
def bulksCutRow : OpenClaim := { program := "ytapbnkbknflggaa", sum := "dc4a94867a2e812aee43767f32df7f0c6f541554e6d48ad57e82a6bcaa9fcd05", func := "plugboard/plugboardlaw09.BulksCut", spec := "bulksCut", unfollowed := true, recurses := true, apart := false }
def BulksCutSaid : Prop := bulksCutRow.holds Try.pinned (OpenSpec.ofChange bulksCutSpec)

/-- ITS FALSE NEIGHBOUR: 'it returns false'. Refute it at one input. -/
def bulksCutWrong : ChangeSpec := { name := "bulksCut", fn := fun _ => fun
  | [d1, d2, d3] => { results := [.lit (.bool false)], args := [d1, d2, d3] }
  | _ => none }
def BulksCutWrongFalsely : Prop := bulksCutRow.holds Try.pinned (OpenSpec.ofChange bulksCutWrong)

/-- 'plugboardlaw09.BulksJoin': WHATEVER THE INPUT: true; the input reads as it did. -/
def bulksJoinSpec : ChangeSpec := { name := "bulksJoin", fn := fun _ => fun
  | [d1, d2] => { results := [.lit (.bool true)], args := [d1, d2] }
  | _ => none }
def bulksJoinRow : OpenClaim := { program := "ytapbnkbknflggaa", sum := "dc4a94867a2e812aee43767f32df7f0c6f541554e6d48ad57e82a6bcaa9fcd05", func := "plugboard/plugboardlaw09.BulksJoin", spec := "bulksJoin", unfollowed := true, recurses := true, apart := false }
def BulksJoinSaid : Prop := bulksJoinRow.holds Try.pinned (OpenSpec.ofChange bulksJoinSpec)

/-- ITS FALSE NEIGHBOUR: 'it returns false'. Refute it at one input. -/
def bulksJoinWrong : ChangeSpec := { name := "bulksJoin", fn := fun _ => fun
  | [d1, d2] => { results := [.lit (.bool false)], args := [d1, d2] }
  | _ => none }
def BulksJoinWrongFalsely : Prop := bulksJoinRow.holds Try.pinned (OpenSpec.ofChange bulksJoinWrong)

/-- 'plugboardlaw09.BulksStart': WHATEVER THE INPUT: true; the input reads as it did. -/
def bulksStartSpec : ChangeSpec := { name := "bulksStart", fn := fun _ => fun
  | [d1, d2] => { results := [.lit (.bool true)], args := [d1, d2] }
  | _ => none }
def bulksStartRow : OpenClaim := { program := "ytapbnkbknflggaa", sum := "dc4a94867a2e812aee43767f32df7f0c6f541554e6d48ad57e82a6bcaa9fcd05", func := "plugboard/plugboardlaw09.BulksStart", spec := "bulksStart", unfollowed := true, recurses := true, apart := false }
def BulksStartSaid : Prop := bulksStartRow.holds Try.pinned (OpenSpec.ofChange bulksStartSpec)

/-- ITS FALSE NEIGHBOUR: 'it returns false'. Refute it at one input. -/
def bulksStartWrong : ChangeSpec := { name := "bulksStart", fn := fun _ => fun
  | [d1, d2] => { results := [.lit (.bool false)], args := [d1, d2] }
  | _ => none }
def BulksStartWrongFalsely : Prop := bulksStartRow.holds Try.pinned (OpenSpec.ofChange bulksStartWrong)

/-- 'plugboardlaw04.SpeedsWorst': WHATEVER THE INPUT: true; the input reads as it did. -/
def speedsWorstSpec : ChangeSpec := { name := "speedsWorst", fn := fun _ => fun
  | [d1, d2] => { results := [.lit (.bool true)], args := [d1, d2] }
  | _ => none }
def speedsWorstRow : OpenClaim := { program := "ytapbnkbknflggaa", sum := "dc4a94867a2e812aee43767f32df7f0c6f541554e6d48ad57e82a6bcaa9fcd05", func := "plugboard/plugboardlaw04.SpeedsWorst", spec := "speedsWorst", unfollowed := true, recurses := true, apart := false }
def SpeedsWorstSaid : Prop := speedsWorstRow.holds Try.pinned (OpenSpec.ofChange speedsWorstSpec)

/-- ITS FALSE NEIGHBOUR: 'it returns false'. Refute it at one input. -/
def speedsWorstWrong : ChangeSpec := { name := "speedsWorst", fn := fun _ => fun
  | [d1, d2] => { results := [.lit (.bool false)], args := [d1, d2] }
  | _ => none }
def SpeedsWorstWrongFalsely : Prop := speedsWorstRow.holds Try.pinned (OpenSpec.ofChange speedsWorstWrong)

/-- 'plugboardlaw04.SpeedsSent': WHATEVER THE INPUT: true; the input reads as it did. -/
def speedsSentSpec : ChangeSpec := { name := "speedsSent", fn := fun _ => fun
  | [d1, d2, d3] => { results := [.lit (.bool true)], args := [d1, d2, d3] }
  | _ => none }
def speedsSentRow : OpenClaim := { program := "ytapbnkbknflggaa", sum := "dc4a94867a2e812aee43767f32df7f0c6f541554e6d48ad57e82a6bcaa9fcd05", func := "plugboard/plugboardlaw04.SpeedsSent", spec := "speedsSent", unfollowed := true, recurses := true, apart := false }
def SpeedsSentSaid : Prop := speedsSentRow.holds Try.pinned (OpenSpec.ofChange speedsSentSpec)

/-- ITS FALSE NEIGHBOUR: 'it returns false'. Refute it at one input. -/
def speedsSentWrong : ChangeSpec := { name := "speedsSent", fn := fun _ => fun
  | [d1, d2, d3] => { results := [.lit (.bool false)], args := [d1, d2, d3] }
  | _ => none }
def SpeedsSentWrongFalsely : Prop := speedsSentRow.holds Try.pinned (OpenSpec.ofChange speedsSentWrong)

/- THE SECOND FORM. 'bulk': how many values and letters a reading holds, each counted each time it is reached (what is shared counts as often as it is met; a slice's spare places count too). A statement '..UptoSaid' is the law's where the arguments, and the package variables that the reading takes, are together of bulk at most 1048576: NARROWER than '..Said'. Prove '..Said' where nothing that the law and all that it calls make is longer than what came in: it says more and counts as full. Else prove '..UptoSaid'. A law counts once. -/
mutual
def uptoBulk {H : Type} : DataW H → Nat
  | .lit (.string bytes) => bytes.length + 1
  | .lit _ => 1
  | .nil => 1
  | .ptr d => uptoBulk d + 1
  | .slice elems spare => uptoBulkAll elems + uptoBulkAll spare + 1
  | .agg parts => uptoBulkAll parts + 1
  | .iface _ d => uptoBulk d + 1
  | .map entries => uptoBulkEntries entries + 1
  | .held _ => 1
def uptoBulkAll {H : Type} : List (DataW H) → Nat
  | [] => 0
  | d :: r => uptoBulk d + uptoBulkAll r
def uptoBulkEntries {H : Type} : List (Lit × DataW H) → Nat
  | [] => 0
  | x :: r => uptoBulkEntry x + uptoBulkEntries r
def uptoBulkEntry {H : Type} : Lit × DataW H → Nat
  | (.string bytes, d) => bytes.length + uptoBulk d + 1
  | (_, d) => uptoBulk d + 1
 end
def uptoSmall : (H : Type) → List (DataW H) → Bool := fun _ ds => decide (uptoBulkAll ds ≤ 1048576)
def OpenSpec.upto (s : _root_.Go.ChangeSpec) : _root_.Go.OpenSpec := { _root_.Go.OpenSpec.ofChange s with cond := some uptoSmall }

/-- 'plugboardlaw04.SpeedsCost', WHERE WHAT IT READS IS OF BULK AT MOST 1048576: true; the input reads as it did. -/
def speedsCostUptoRow : OpenClaim := { program := "ytapbnkbknflggaa", sum := "dc4a94867a2e812aee43767f32df7f0c6f541554e6d48ad57e82a6bcaa9fcd05", func := "plugboard/plugboardlaw04.SpeedsCost", spec := "speedsCost", unfollowed := true, recurses := true, apart := false, narrowed := true }
def SpeedsCostUptoSaid : Prop := speedsCostUptoRow.holds Try.pinned (OpenSpec.upto speedsCostSpec)

/-- 'plugboardlaw04.SpeedsSplits', WHERE WHAT IT READS IS OF BULK AT MOST 1048576: true; the input reads as it did. -/
def speedsSplitsUptoRow : OpenClaim := { program := "ytapbnkbknflggaa", sum := "dc4a94867a2e812aee43767f32df7f0c6f541554e6d48ad57e82a6bcaa9fcd05", func := "plugboard/plugboardlaw04.SpeedsSplits", spec := "speedsSplits", unfollowed := true, recurses := true, apart := false, narrowed := true }
def SpeedsSplitsUptoSaid : Prop := speedsSplitsUptoRow.holds Try.pinned (OpenSpec.upto speedsSplitsSpec)

/-- 'plugboardlaw04.SpeedsBudget', WHERE WHAT IT READS IS OF BULK AT MOST 1048576: true; the input reads as it did. -/
def speedsBudgetUptoRow : OpenClaim := { program := "ytapbnkbknflggaa", sum := "dc4a94867a2e812aee43767f32df7f0c6f541554e6d48ad57e82a6bcaa9fcd05", func := "plugboard/plugboardlaw04.SpeedsBudget", spec := "speedsBudget", unfollowed := true, recurses := true, apart := false, narrowed := true }
def SpeedsBudgetUptoSaid : Prop := speedsBudgetUptoRow.holds Try.pinned (OpenSpec.upto speedsBudgetSpec)

/-- 'plugboardlaw04.SpeedsFit', WHERE WHAT IT READS IS OF BULK AT MOST 1048576: true; the input reads as it did. -/
def speedsFitUptoRow : OpenClaim := { program := "ytapbnkbknflggaa", sum := "dc4a94867a2e812aee43767f32df7f0c6f541554e6d48ad57e82a6bcaa9fcd05", func := "plugboard/plugboardlaw04.SpeedsFit", spec := "speedsFit", unfollowed := true, recurses := true, apart := false, narrowed := true }
def SpeedsFitUptoSaid : Prop := speedsFitUptoRow.holds Try.pinned (OpenSpec.upto speedsFitSpec)

/-- 'plugboardlaw04.SpeedsMost', WHERE WHAT IT READS IS OF BULK AT MOST 1048576: true; the input reads as it did. -/
def speedsMostUptoRow : OpenClaim := { program := "ytapbnkbknflggaa", sum := "dc4a94867a2e812aee43767f32df7f0c6f541554e6d48ad57e82a6bcaa9fcd05", func := "plugboard/plugboardlaw04.SpeedsMost", spec := "speedsMost", unfollowed := true, recurses := true, apart := false, narrowed := true }
def SpeedsMostUptoSaid : Prop := speedsMostUptoRow.holds Try.pinned (OpenSpec.upto speedsMostSpec)

/-- 'plugboardlaw09.BulksCut', WHERE WHAT IT READS IS OF BULK AT MOST 1048576: true; the input reads as it did. -/
def bulksCutUptoRow : OpenClaim := { program := "ytapbnkbknflggaa", sum := "dc4a94867a2e812aee43767f32df7f0c6f541554e6d48ad57e82a6bcaa9fcd05", func := "plugboard/plugboardlaw09.BulksCut", spec := "bulksCut", unfollowed := true, recurses := true, apart := false, narrowed := true }
def BulksCutUptoSaid : Prop := bulksCutUptoRow.holds Try.pinned (OpenSpec.upto bulksCutSpec)

/-- 'plugboardlaw09.BulksJoin', WHERE WHAT IT READS IS OF BULK AT MOST 1048576: true; the input reads as it did. -/
def bulksJoinUptoRow : OpenClaim := { program := "ytapbnkbknflggaa", sum := "dc4a94867a2e812aee43767f32df7f0c6f541554e6d48ad57e82a6bcaa9fcd05", func := "plugboard/plugboardlaw09.BulksJoin", spec := "bulksJoin", unfollowed := true, recurses := true, apart := false, narrowed := true }
def BulksJoinUptoSaid : Prop := bulksJoinUptoRow.holds Try.pinned (OpenSpec.upto bulksJoinSpec)

/-- 'plugboardlaw09.BulksStart', WHERE WHAT IT READS IS OF BULK AT MOST 1048576: true; the input reads as it did. -/
def bulksStartUptoRow : OpenClaim := { program := "ytapbnkbknflggaa", sum := "dc4a94867a2e812aee43767f32df7f0c6f541554e6d48ad57e82a6bcaa9fcd05", func := "plugboard/plugboardlaw09.BulksStart", spec := "bulksStart", unfollowed := true, recurses := true, apart := false, narrowed := true }
def BulksStartUptoSaid : Prop := bulksStartUptoRow.holds Try.pinned (OpenSpec.upto bulksStartSpec)

/-- 'plugboardlaw04.SpeedsWorst', WHERE WHAT IT READS IS OF BULK AT MOST 1048576: true; the input reads as it did. -/
def speedsWorstUptoRow : OpenClaim := { program := "ytapbnkbknflggaa", sum := "dc4a94867a2e812aee43767f32df7f0c6f541554e6d48ad57e82a6bcaa9fcd05", func := "plugboard/plugboardlaw04.SpeedsWorst", spec := "speedsWorst", unfollowed := true, recurses := true, apart := false, narrowed := true }
def SpeedsWorstUptoSaid : Prop := speedsWorstUptoRow.holds Try.pinned (OpenSpec.upto speedsWorstSpec)

/-- 'plugboardlaw04.SpeedsSent', WHERE WHAT IT READS IS OF BULK AT MOST 1048576: true; the input reads as it did. -/
def speedsSentUptoRow : OpenClaim := { program := "ytapbnkbknflggaa", sum := "dc4a94867a2e812aee43767f32df7f0c6f541554e6d48ad57e82a6bcaa9fcd05", func := "plugboard/plugboardlaw04.SpeedsSent", spec := "speedsSent", unfollowed := true, recurses := true, apart := false, narrowed := true }
def SpeedsSentUptoSaid : Prop := speedsSentUptoRow.holds Try.pinned (OpenSpec.upto speedsSentSpec)

end Rows
end Go.Proofs.Ytapbnkbknflggaa
