/-
  No cell of these rows narrows 'for every input' (looked for: loops, veiled, ifaces, maps, wideKeys, modest, calm, conditions, laid).
  DERIVED. THE GIVEN ROWS OF THIS SEAT. 4 by the template 'for every input the law returns true; each argument reads behind the call as it read before'; 0 by the template 'total and deterministic' (their statements: YtngghkoghbpceaaTotals.lean).
  GIVEN WITH THE SEED: the statements are not yours to turn. If you find one false, say at which input.
  Laid BY PROGRAM, IN A SANDBOX (cutbox-rows.mjs): the forced cells as the released guide's own fill.sh prints them over the translation be9a55cc5a108d1d… (all of the seat's roots in one cut). By AI agents, Wed Nov 11 2026. No macro, syntax, notation, axiom, sorry.
-/
import Derived.Test.YtngghkoghbpceaaChecked
import GoSem.Claim
import GoSem.ClaimJoined
import GoSem.ClaimMapViews
import Derived.JoinedTies
import Derived.KernelRfl
namespace Go.Proofs.Ytngghkoghbpceaa
/- THE CELL 'sum', in the pinned program and in every row, IS THE sha256 OF THE DUMP (.gsa) THAT YtngghkoghbpceaaProg.lean LOADS. Nothing in Lean hashes anything: it is a label: what it is worth is what the hold of that sum in a sandbox is worth. -/
noncomputable def Try.pinned : Pinned := { name := "ytngghkoghbpceaa", sum := "be9a55cc5a108d1d786730d0cd06901c1f041f5bece609d67291372709386f7f", checked := Try.checked }
namespace Rows
def none {H : Type} : Left H := { results := [], args := [] }

/-- 'plugboardlaw09.BulksWrite': WHATEVER THE INPUT: true; the input reads as it did. -/
def bulksWriteSpec : ChangeSpec := { name := "bulksWrite", fn := fun _ => fun
  | [d1, d2, d3] => { results := [.lit (.bool true)], args := [d1, d2, d3] }
  | _ => none }
def bulksWriteRow : OpenClaim := { program := "ytngghkoghbpceaa", sum := "be9a55cc5a108d1d786730d0cd06901c1f041f5bece609d67291372709386f7f", func := "plugboard/plugboardlaw09.BulksWrite", spec := "bulksWrite", unfollowed := true, recurses := true, plainKeys := false, apart := false }
def BulksWriteSaid : Prop := bulksWriteRow.holds Try.pinned (OpenSpec.ofChange bulksWriteSpec)

/-- ITS FALSE NEIGHBOUR: 'it returns false'. Refute it at one input. -/
def bulksWriteWrong : ChangeSpec := { name := "bulksWrite", fn := fun _ => fun
  | [d1, d2, d3] => { results := [.lit (.bool false)], args := [d1, d2, d3] }
  | _ => none }
def BulksWriteWrongFalsely : Prop := bulksWriteRow.holds Try.pinned (OpenSpec.ofChange bulksWriteWrong)

/-- 'plugboardlaw09.BulksRead': WHATEVER THE INPUT: true; the input reads as it did. -/
def bulksReadSpec : ChangeSpec := { name := "bulksRead", fn := fun _ => fun
  | [d1, d2, d3] => { results := [.lit (.bool true)], args := [d1, d2, d3] }
  | _ => none }
def bulksReadRow : OpenClaim := { program := "ytngghkoghbpceaa", sum := "be9a55cc5a108d1d786730d0cd06901c1f041f5bece609d67291372709386f7f", func := "plugboard/plugboardlaw09.BulksRead", spec := "bulksRead", unfollowed := true, recurses := true, plainKeys := false, apart := false }
def BulksReadSaid : Prop := bulksReadRow.holds Try.pinned (OpenSpec.ofChange bulksReadSpec)

/-- ITS FALSE NEIGHBOUR: 'it returns false'. Refute it at one input. -/
def bulksReadWrong : ChangeSpec := { name := "bulksRead", fn := fun _ => fun
  | [d1, d2, d3] => { results := [.lit (.bool false)], args := [d1, d2, d3] }
  | _ => none }
def BulksReadWrongFalsely : Prop := bulksReadRow.holds Try.pinned (OpenSpec.ofChange bulksReadWrong)

/-- 'plugboardlaw08.ControlsOnce': WHATEVER THE INPUT: true; the input reads as it did. -/
def controlsOnceSpec : ChangeSpec := { name := "controlsOnce", fn := fun _ => fun
  | [d1, d2, d3] => { results := [.lit (.bool true)], args := [d1, d2, d3] }
  | _ => none }
def controlsOnceRow : OpenClaim := { program := "ytngghkoghbpceaa", sum := "be9a55cc5a108d1d786730d0cd06901c1f041f5bece609d67291372709386f7f", func := "plugboard/plugboardlaw08.ControlsOnce", spec := "controlsOnce", unfollowed := true, recurses := true, plainKeys := false, apart := false }
def ControlsOnceSaid : Prop := controlsOnceRow.holds Try.pinned (OpenSpec.ofChange controlsOnceSpec)

/-- ITS FALSE NEIGHBOUR: 'it returns false'. Refute it at one input. -/
def controlsOnceWrong : ChangeSpec := { name := "controlsOnce", fn := fun _ => fun
  | [d1, d2, d3] => { results := [.lit (.bool false)], args := [d1, d2, d3] }
  | _ => none }
def ControlsOnceWrongFalsely : Prop := controlsOnceRow.holds Try.pinned (OpenSpec.ofChange controlsOnceWrong)

/-- 'plugboardlaw08.ControlsFew': WHATEVER THE INPUT: true; the input reads as it did. -/
def controlsFewSpec : ChangeSpec := { name := "controlsFew", fn := fun _ => fun
  | [d1, d2, d3] => { results := [.lit (.bool true)], args := [d1, d2, d3] }
  | _ => none }
def controlsFewRow : OpenClaim := { program := "ytngghkoghbpceaa", sum := "be9a55cc5a108d1d786730d0cd06901c1f041f5bece609d67291372709386f7f", func := "plugboard/plugboardlaw08.ControlsFew", spec := "controlsFew", unfollowed := true, recurses := true, plainKeys := false, apart := false }
def ControlsFewSaid : Prop := controlsFewRow.holds Try.pinned (OpenSpec.ofChange controlsFewSpec)

/-- ITS FALSE NEIGHBOUR: 'it returns false'. Refute it at one input. -/
def controlsFewWrong : ChangeSpec := { name := "controlsFew", fn := fun _ => fun
  | [d1, d2, d3] => { results := [.lit (.bool false)], args := [d1, d2, d3] }
  | _ => none }
def ControlsFewWrongFalsely : Prop := controlsFewRow.holds Try.pinned (OpenSpec.ofChange controlsFewWrong)

/- THE SECOND FORM. 'bulk': how many values and letters a reading holds, each counted each time it is reached (what is shared counts as often as it is met; a slice's spare places count too). A statement '..UptoSaid' is the law's where the arguments, and the package variables that the reading takes, are together of bulk at most 1048576: NARROWER than '..Said'. Prove '..Said' where nothing that the law and all that it calls make is longer than what came in: it says more and counts as full. Else prove '..UptoSaid'. A law counts once. -/
mutual
def uptoBulk {H : Type} : DataW H → Nat
  | .lit (.string bytes) => bytes.length + 1
  | .lit _ => 1
  | .nil => 1
  | .ptr d => uptoBulk d + 1
  | .slice elems spare => uptoBulkAll elems + uptoBulkAll spare + 1
  | .agg parts => uptoBulkAll parts + 1
  | .iface _ d => uptoBulk d + 1
  | .map entries => uptoBulkEntries entries + 1
  | .held _ => 1
def uptoBulkAll {H : Type} : List (DataW H) → Nat
  | [] => 0
  | d :: r => uptoBulk d + uptoBulkAll r
def uptoBulkEntries {H : Type} : List (Lit × DataW H) → Nat
  | [] => 0
  | x :: r => uptoBulkEntry x + uptoBulkEntries r
def uptoBulkEntry {H : Type} : Lit × DataW H → Nat
  | (.string bytes, d) => bytes.length + uptoBulk d + 1
  | (_, d) => uptoBulk d + 1
 end
def uptoSmall : (H : Type) → List (DataW H) → Bool := fun _ ds => decide (uptoBulkAll ds ≤ 1048576)
def OpenSpec.upto (s : _root_.Go.ChangeSpec) : _root_.Go.OpenSpec := { _root_.Go.OpenSpec.ofChange s with cond := some uptoSmall }

/-- 'plugboardlaw09.BulksWrite', WHERE WHAT IT READS IS OF BULK AT MOST 1048576: true; the input reads as it did. -/
def bulksWriteUptoRow : OpenClaim := { program := "ytngghkoghbpceaa", sum := "be9a55cc5a108d1d786730d0cd06901c1f041f5bece609d67291372709386f7f", func := "plugboard/plugboardlaw09.BulksWrite", spec := "bulksWrite", unfollowed := true, recurses := true, plainKeys := false, apart := false, narrowed := true }
def BulksWriteUptoSaid : Prop := bulksWriteUptoRow.holds Try.pinned (OpenSpec.upto bulksWriteSpec)

/-- 'plugboardlaw09.BulksRead', WHERE WHAT IT READS IS OF BULK AT MOST 1048576: true; the input reads as it did. -/
def bulksReadUptoRow : OpenClaim := { program := "ytngghkoghbpceaa", sum := "be9a55cc5a108d1d786730d0cd06901c1f041f5bece609d67291372709386f7f", func := "plugboard/plugboardlaw09.BulksRead", spec := "bulksRead", unfollowed := true, recurses := true, plainKeys := false, apart := false, narrowed := true }
def BulksReadUptoSaid : Prop := bulksReadUptoRow.holds Try.pinned (OpenSpec.upto bulksReadSpec)

/-- 'plugboardlaw08.ControlsOnce', WHERE WHAT IT READS IS OF BULK AT MOST 1048576: true; the input reads as it did. -/
def controlsOnceUptoRow : OpenClaim := { program := "ytngghkoghbpceaa", sum := "be9a55cc5a108d1d786730d0cd06901c1f041f5bece609d67291372709386f7f", func := "plugboard/plugboardlaw08.ControlsOnce", spec := "controlsOnce", unfollowed := true, recurses := true, plainKeys := false, apart := false, narrowed := true }
def ControlsOnceUptoSaid : Prop := controlsOnceUptoRow.holds Try.pinned (OpenSpec.upto controlsOnceSpec)

/-- 'plugboardlaw08.ControlsFew', WHERE WHAT IT READS IS OF BULK AT MOST 1048576: true; the input reads as it did. -/
def controlsFewUptoRow : OpenClaim := { program := "ytngghkoghbpceaa", sum := "be9a55cc5a108d1d786730d0cd06901c1f041f5bece609d67291372709386f7f", func := "plugboard/plugboardlaw08.ControlsFew", spec := "controlsFew", unfollowed := true, recurses := true, plainKeys := false, apart := false, narrowed := true }
def ControlsFewUptoSaid : Prop := controlsFewUptoRow.holds Try.pinned (OpenSpec.upto controlsFewSpec)

end Rows
end Go.Proofs.Ytngghkoghbpceaa
