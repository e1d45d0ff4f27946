/-
  No cell of these rows narrows 'for every input' (looked for: loops, veiled, ifaces, maps, wideKeys, modest, calm, conditions, laid).
  DERIVED. THE GIVEN ROWS OF THIS SEAT. 12 by the template 'for every input the law returns true; each argument reads behind the call as it read before'; 0 by the template 'total and deterministic' (their statements: YtphajgehfbimnaaTotals.lean).
  GIVEN WITH THE SEED: the statements are not yours to turn. If you find one false, say at which input.
  Laid BY PROGRAM, IN A SANDBOX (cutbox-rows.mjs): the forced cells as the released guide's own fill.sh prints them over the translation 4002b0e5a0ff7abb… (all of the seat's roots in one cut). By AI agents, Wed Nov 11 2026. No macro, syntax, notation, axiom, sorry.
-/
import Derived.Test.YtphajgehfbimnaaChecked
import GoSem.Claim
import GoSem.ClaimJoined
import GoSem.ClaimMapViews
import Derived.JoinedTies
import Derived.KernelRfl
namespace Go.Proofs.Ytphajgehfbimnaa
/- THE CELL 'sum', in the pinned program and in every row, IS THE sha256 OF THE DUMP (.gsa) THAT YtphajgehfbimnaaProg.lean LOADS. Nothing in Lean hashes anything: it is a label: what it is worth is what the hold of that sum in a sandbox is worth. -/
noncomputable def Try.pinned : Pinned := { name := "ytphajgehfbimnaa", sum := "4002b0e5a0ff7abb27293bb6e03a4612aacb19cea1860544c71328fa23f51388", checked := Try.checked }
namespace Rows
def none {H : Type} : Left H := { results := [], args := [] }

/-- 'plugboardlaw42.AudiosSend': WHATEVER THE INPUT: true; the input reads as it did. -/
def audiosSendSpec : ChangeSpec := { name := "audiosSend", fn := fun _ => fun
  | [d1, d2] => { results := [.lit (.bool true)], args := [d1, d2] }
  | _ => none }
def audiosSendRow : OpenClaim := { program := "ytphajgehfbimnaa", sum := "4002b0e5a0ff7abb27293bb6e03a4612aacb19cea1860544c71328fa23f51388", func := "plugboard/plugboardlaw42.AudiosSend", spec := "audiosSend", apart := false }
def AudiosSendSaid : Prop := audiosSendRow.holds Try.pinned (OpenSpec.ofChange audiosSendSpec)

/-- ITS FALSE NEIGHBOUR: 'it returns false'. Refute it at one input. -/
def audiosSendWrong : ChangeSpec := { name := "audiosSend", fn := fun _ => fun
  | [d1, d2] => { results := [.lit (.bool false)], args := [d1, d2] }
  | _ => none }
def AudiosSendWrongFalsely : Prop := audiosSendRow.holds Try.pinned (OpenSpec.ofChange audiosSendWrong)

/-- 'plugboardlaw42.AudiosFeedback': WHATEVER THE INPUT: true; the input reads as it did. -/
def audiosFeedbackSpec : ChangeSpec := { name := "audiosFeedback", fn := fun _ => fun
  | [d1, d2] => { results := [.lit (.bool true)], args := [d1, d2] }
  | _ => none }
def audiosFeedbackRow : OpenClaim := { program := "ytphajgehfbimnaa", sum := "4002b0e5a0ff7abb27293bb6e03a4612aacb19cea1860544c71328fa23f51388", func := "plugboard/plugboardlaw42.AudiosFeedback", spec := "audiosFeedback", apart := false }
def AudiosFeedbackSaid : Prop := audiosFeedbackRow.holds Try.pinned (OpenSpec.ofChange audiosFeedbackSpec)

/-- ITS FALSE NEIGHBOUR: 'it returns false'. Refute it at one input. -/
def audiosFeedbackWrong : ChangeSpec := { name := "audiosFeedback", fn := fun _ => fun
  | [d1, d2] => { results := [.lit (.bool false)], args := [d1, d2] }
  | _ => none }
def AudiosFeedbackWrongFalsely : Prop := audiosFeedbackRow.holds Try.pinned (OpenSpec.ofChange audiosFeedbackWrong)

/-- 'plugboardlaw42.AudiosPack': WHATEVER THE INPUT: true; the input reads as it did. -/
def audiosPackSpec : ChangeSpec := { name := "audiosPack", fn := fun _ => fun
  | [d1, d2, d3] => { results := [.lit (.bool true)], args := [d1, d2, d3] }
  | _ => none }
def audiosPackRow : OpenClaim := { program := "ytphajgehfbimnaa", sum := "4002b0e5a0ff7abb27293bb6e03a4612aacb19cea1860544c71328fa23f51388", func := "plugboard/plugboardlaw42.AudiosPack", spec := "audiosPack", apart := false }
def AudiosPackSaid : Prop := audiosPackRow.holds Try.pinned (OpenSpec.ofChange audiosPackSpec)

/-- ITS FALSE NEIGHBOUR: 'it returns false'. Refute it at one input. -/
def audiosPackWrong : ChangeSpec := { name := "audiosPack", fn := fun _ => fun
  | [d1, d2, d3] => { results := [.lit (.bool false)], args := [d1, d2, d3] }
  | _ => none }
def AudiosPackWrongFalsely : Prop := audiosPackRow.holds Try.pinned (OpenSpec.ofChange audiosPackWrong)

/-- 'plugboardlaw42.AudiosPlay': WHATEVER THE INPUT: true; the input reads as it did. -/
def audiosPlaySpec : ChangeSpec := { name := "audiosPlay", fn := fun _ => fun
  | [d1, d2, d3] => { results := [.lit (.bool true)], args := [d1, d2, d3] }
  | _ => none }
def audiosPlayRow : OpenClaim := { program := "ytphajgehfbimnaa", sum := "4002b0e5a0ff7abb27293bb6e03a4612aacb19cea1860544c71328fa23f51388", func := "plugboard/plugboardlaw42.AudiosPlay", spec := "audiosPlay", apart := false }
def AudiosPlaySaid : Prop := audiosPlayRow.holds Try.pinned (OpenSpec.ofChange audiosPlaySpec)

/-- ITS FALSE NEIGHBOUR: 'it returns false'. Refute it at one input. -/
def audiosPlayWrong : ChangeSpec := { name := "audiosPlay", fn := fun _ => fun
  | [d1, d2, d3] => { results := [.lit (.bool false)], args := [d1, d2, d3] }
  | _ => none }
def AudiosPlayWrongFalsely : Prop := audiosPlayRow.holds Try.pinned (OpenSpec.ofChange audiosPlayWrong)

/-- 'plugboardlaw05.TogglesRun': WHATEVER THE INPUT: true; the input reads as it did. -/
def togglesRunSpec : ChangeSpec := { name := "togglesRun", fn := fun _ => fun
  | [d1, d2, d3] => { results := [.lit (.bool true)], args := [d1, d2, d3] }
  | _ => none }
def togglesRunRow : OpenClaim := { program := "ytphajgehfbimnaa", sum := "4002b0e5a0ff7abb27293bb6e03a4612aacb19cea1860544c71328fa23f51388", func := "plugboard/plugboardlaw05.TogglesRun", spec := "togglesRun", unfollowed := true, recurses := true, apart := false }
def TogglesRunSaid : Prop := togglesRunRow.holds Try.pinned (OpenSpec.ofChange togglesRunSpec)

/-- ITS FALSE NEIGHBOUR: 'it returns false'. Refute it at one input. -/
def togglesRunWrong : ChangeSpec := { name := "togglesRun", fn := fun _ => fun
  | [d1, d2, d3] => { results := [.lit (.bool false)], args := [d1, d2, d3] }
  | _ => none }
def TogglesRunWrongFalsely : Prop := togglesRunRow.holds Try.pinned (OpenSpec.ofChange togglesRunWrong)

/-- 'plugboardlaw05.TogglesOrder': WHATEVER THE INPUT: true; the input reads as it did. -/
def togglesOrderSpec : ChangeSpec := { name := "togglesOrder", fn := fun _ => fun
  | [d1, d2] => { results := [.lit (.bool true)], args := [d1, d2] }
  | _ => none }
def togglesOrderRow : OpenClaim := { program := "ytphajgehfbimnaa", sum := "4002b0e5a0ff7abb27293bb6e03a4612aacb19cea1860544c71328fa23f51388", func := "plugboard/plugboardlaw05.TogglesOrder", spec := "togglesOrder", unfollowed := true, recurses := true, apart := false }
def TogglesOrderSaid : Prop := togglesOrderRow.holds Try.pinned (OpenSpec.ofChange togglesOrderSpec)

/-- ITS FALSE NEIGHBOUR: 'it returns false'. Refute it at one input. -/
def togglesOrderWrong : ChangeSpec := { name := "togglesOrder", fn := fun _ => fun
  | [d1, d2] => { results := [.lit (.bool false)], args := [d1, d2] }
  | _ => none }
def TogglesOrderWrongFalsely : Prop := togglesOrderRow.holds Try.pinned (OpenSpec.ofChange togglesOrderWrong)

/-- 'plugboardlaw05.TogglesClear': WHATEVER THE INPUT: true; the input reads as it did. -/
def togglesClearSpec : ChangeSpec := { name := "togglesClear", fn := fun _ => fun
  | [d1, d2] => { results := [.lit (.bool true)], args := [d1, d2] }
  | _ => none }
def togglesClearRow : OpenClaim := { program := "ytphajgehfbimnaa", sum := "4002b0e5a0ff7abb27293bb6e03a4612aacb19cea1860544c71328fa23f51388", func := "plugboard/plugboardlaw05.TogglesClear", spec := "togglesClear", unfollowed := true, recurses := true, apart := false }
def TogglesClearSaid : Prop := togglesClearRow.holds Try.pinned (OpenSpec.ofChange togglesClearSpec)

/-- ITS FALSE NEIGHBOUR: 'it returns false'. Refute it at one input. -/
def togglesClearWrong : ChangeSpec := { name := "togglesClear", fn := fun _ => fun
  | [d1, d2] => { results := [.lit (.bool false)], args := [d1, d2] }
  | _ => none }
def TogglesClearWrongFalsely : Prop := togglesClearRow.holds Try.pinned (OpenSpec.ofChange togglesClearWrong)

/-- 'plugboardlaw05.TogglesNew': WHATEVER THE INPUT: true; the input reads as it did. -/
def togglesNewSpec : ChangeSpec := { name := "togglesNew", fn := fun _ => fun
  | [d1, d2, d3] => { results := [.lit (.bool true)], args := [d1, d2, d3] }
  | _ => none }
def togglesNewRow : OpenClaim := { program := "ytphajgehfbimnaa", sum := "4002b0e5a0ff7abb27293bb6e03a4612aacb19cea1860544c71328fa23f51388", func := "plugboard/plugboardlaw05.TogglesNew", spec := "togglesNew", unfollowed := true, recurses := true, apart := false }
def TogglesNewSaid : Prop := togglesNewRow.holds Try.pinned (OpenSpec.ofChange togglesNewSpec)

/-- ITS FALSE NEIGHBOUR: 'it returns false'. Refute it at one input. -/
def togglesNewWrong : ChangeSpec := { name := "togglesNew", fn := fun _ => fun
  | [d1, d2, d3] => { results := [.lit (.bool false)], args := [d1, d2, d3] }
  | _ => none }
def TogglesNewWrongFalsely : Prop := togglesNewRow.holds Try.pinned (OpenSpec.ofChange togglesNewWrong)

/-- 'plugboardlaw05.TogglesSteps': WHATEVER THE INPUT: true; the input reads as it did. -/
def togglesStepsSpec : ChangeSpec := { name := "togglesSteps", fn := fun _ => fun
  | [d1, d2, d3] => { results := [.lit (.bool true)], args := [d1, d2, d3] }
  | _ => none }
def togglesStepsRow : OpenClaim := { program := "ytphajgehfbimnaa", sum := "4002b0e5a0ff7abb27293bb6e03a4612aacb19cea1860544c71328fa23f51388", func := "plugboard/plugboardlaw05.TogglesSteps", spec := "togglesSteps", unfollowed := true, recurses := true, apart := false }
def TogglesStepsSaid : Prop := togglesStepsRow.holds Try.pinned (OpenSpec.ofChange togglesStepsSpec)

/-- ITS FALSE NEIGHBOUR: 'it returns false'. Refute it at one input. -/
def togglesStepsWrong : ChangeSpec := { name := "togglesSteps", fn := fun _ => fun
  | [d1, d2, d3] => { results := [.lit (.bool false)], args := [d1, d2, d3] }
  | _ => none }
def TogglesStepsWrongFalsely : Prop := togglesStepsRow.holds Try.pinned (OpenSpec.ofChange togglesStepsWrong)

/-- 'plugboardlaw42.AudiosRun': WHATEVER THE INPUT: true; the input reads as it did. -/
def audiosRunSpec : ChangeSpec := { name := "audiosRun", fn := fun _ => fun
  | [d1, d2, d3] => { results := [.lit (.bool true)], args := [d1, d2, d3] }
  | _ => none }
def audiosRunRow : OpenClaim := { program := "ytphajgehfbimnaa", sum := "4002b0e5a0ff7abb27293bb6e03a4612aacb19cea1860544c71328fa23f51388", func := "plugboard/plugboardlaw42.AudiosRun", spec := "audiosRun", unfollowed := true, recurses := true, apart := false }
def AudiosRunSaid : Prop := audiosRunRow.holds Try.pinned (OpenSpec.ofChange audiosRunSpec)

/-- ITS FALSE NEIGHBOUR: 'it returns false'. Refute it at one input. -/
def audiosRunWrong : ChangeSpec := { name := "audiosRun", fn := fun _ => fun
  | [d1, d2, d3] => { results := [.lit (.bool false)], args := [d1, d2, d3] }
  | _ => none }
def AudiosRunWrongFalsely : Prop := audiosRunRow.holds Try.pinned (OpenSpec.ofChange audiosRunWrong)

/-- 'plugboardlaw42.AudiosKeep': WHATEVER THE INPUT: true; the input reads as it did. -/
def audiosKeepSpec : ChangeSpec := { name := "audiosKeep", fn := fun _ => fun
  | [d1, d2, d3] => { results := [.lit (.bool true)], args := [d1, d2, d3] }
  | _ => none }
def audiosKeepRow : OpenClaim := { program := "ytphajgehfbimnaa", sum := "4002b0e5a0ff7abb27293bb6e03a4612aacb19cea1860544c71328fa23f51388", func := "plugboard/plugboardlaw42.AudiosKeep", spec := "audiosKeep", unfollowed := true, recurses := true, apart := false }
def AudiosKeepSaid : Prop := audiosKeepRow.holds Try.pinned (OpenSpec.ofChange audiosKeepSpec)

/-- ITS FALSE NEIGHBOUR: 'it returns false'. Refute it at one input. -/
def audiosKeepWrong : ChangeSpec := { name := "audiosKeep", fn := fun _ => fun
  | [d1, d2, d3] => { results := [.lit (.bool false)], args := [d1, d2, d3] }
  | _ => none }
def AudiosKeepWrongFalsely : Prop := audiosKeepRow.holds Try.pinned (OpenSpec.ofChange audiosKeepWrong)

/-- 'plugboardlaw42.AudiosKnown': WHATEVER THE INPUT: true; the input reads as it did. -/
def audiosKnownSpec : ChangeSpec := { name := "audiosKnown", fn := fun _ => fun
  | [] => { results := [.lit (.bool true)], args := [] }
  | _ => none }
def audiosKnownRow : OpenClaim := { program := "ytphajgehfbimnaa", sum := "4002b0e5a0ff7abb27293bb6e03a4612aacb19cea1860544c71328fa23f51388", func := "plugboard/plugboardlaw42.AudiosKnown", spec := "audiosKnown", unfollowed := true, recurses := true, apart := false }
def AudiosKnownSaid : Prop := audiosKnownRow.holds Try.pinned (OpenSpec.ofChange audiosKnownSpec)

/-- ITS FALSE NEIGHBOUR: 'it returns false'. Refute it at one input. -/
def audiosKnownWrong : ChangeSpec := { name := "audiosKnown", fn := fun _ => fun
  | [] => { results := [.lit (.bool false)], args := [] }
  | _ => none }
def AudiosKnownWrongFalsely : Prop := audiosKnownRow.holds Try.pinned (OpenSpec.ofChange audiosKnownWrong)

/- THE SECOND FORM. 'bulk': how many values and letters a reading holds, each counted each time it is reached (what is shared counts as often as it is met; a slice's spare places count too). A statement '..UptoSaid' is the law's where the arguments, and the package variables that the reading takes, are together of bulk at most 1048576: NARROWER than '..Said'. Prove '..Said' where nothing that the law and all that it calls make is longer than what came in: it says more and counts as full. Else prove '..UptoSaid'. A law counts once. -/
mutual
def uptoBulk {H : Type} : DataW H → Nat
  | .lit (.string bytes) => bytes.length + 1
  | .lit _ => 1
  | .nil => 1
  | .ptr d => uptoBulk d + 1
  | .slice elems spare => uptoBulkAll elems + uptoBulkAll spare + 1
  | .agg parts => uptoBulkAll parts + 1
  | .iface _ d => uptoBulk d + 1
  | .map entries => uptoBulkEntries entries + 1
  | .held _ => 1
def uptoBulkAll {H : Type} : List (DataW H) → Nat
  | [] => 0
  | d :: r => uptoBulk d + uptoBulkAll r
def uptoBulkEntries {H : Type} : List (Lit × DataW H) → Nat
  | [] => 0
  | x :: r => uptoBulkEntry x + uptoBulkEntries r
def uptoBulkEntry {H : Type} : Lit × DataW H → Nat
  | (.string bytes, d) => bytes.length + uptoBulk d + 1
  | (_, d) => uptoBulk d + 1
 end
def uptoSmall : (H : Type) → List (DataW H) → Bool := fun _ ds => decide (uptoBulkAll ds ≤ 1048576)
def OpenSpec.upto (s : _root_.Go.ChangeSpec) : _root_.Go.OpenSpec := { _root_.Go.OpenSpec.ofChange s with cond := some uptoSmall }

/-- 'plugboardlaw42.AudiosSend', WHERE WHAT IT READS IS OF BULK AT MOST 1048576: true; the input reads as it did. -/
def audiosSendUptoRow : OpenClaim := { program := "ytphajgehfbimnaa", sum := "4002b0e5a0ff7abb27293bb6e03a4612aacb19cea1860544c71328fa23f51388", func := "plugboard/plugboardlaw42.AudiosSend", spec := "audiosSend", apart := false, narrowed := true }
def AudiosSendUptoSaid : Prop := audiosSendUptoRow.holds Try.pinned (OpenSpec.upto audiosSendSpec)

/-- 'plugboardlaw42.AudiosFeedback', WHERE WHAT IT READS IS OF BULK AT MOST 1048576: true; the input reads as it did. -/
def audiosFeedbackUptoRow : OpenClaim := { program := "ytphajgehfbimnaa", sum := "4002b0e5a0ff7abb27293bb6e03a4612aacb19cea1860544c71328fa23f51388", func := "plugboard/plugboardlaw42.AudiosFeedback", spec := "audiosFeedback", apart := false, narrowed := true }
def AudiosFeedbackUptoSaid : Prop := audiosFeedbackUptoRow.holds Try.pinned (OpenSpec.upto audiosFeedbackSpec)

/-- 'plugboardlaw42.AudiosPack', WHERE WHAT IT READS IS OF BULK AT MOST 1048576: true; the input reads as it did. -/
def audiosPackUptoRow : OpenClaim := { program := "ytphajgehfbimnaa", sum := "4002b0e5a0ff7abb27293bb6e03a4612aacb19cea1860544c71328fa23f51388", func := "plugboard/plugboardlaw42.AudiosPack", spec := "audiosPack", apart := false, narrowed := true }
def AudiosPackUptoSaid : Prop := audiosPackUptoRow.holds Try.pinned (OpenSpec.upto audiosPackSpec)

/-- 'plugboardlaw42.AudiosPlay', WHERE WHAT IT READS IS OF BULK AT MOST 1048576: true; the input reads as it did. -/
def audiosPlayUptoRow : OpenClaim := { program := "ytphajgehfbimnaa", sum := "4002b0e5a0ff7abb27293bb6e03a4612aacb19cea1860544c71328fa23f51388", func := "plugboard/plugboardlaw42.AudiosPlay", spec := "audiosPlay", apart := false, narrowed := true }
def AudiosPlayUptoSaid : Prop := audiosPlayUptoRow.holds Try.pinned (OpenSpec.upto audiosPlaySpec)

/-- 'plugboardlaw05.TogglesRun', WHERE WHAT IT READS IS OF BULK AT MOST 1048576: true; the input reads as it did. -/
def togglesRunUptoRow : OpenClaim := { program := "ytphajgehfbimnaa", sum := "4002b0e5a0ff7abb27293bb6e03a4612aacb19cea1860544c71328fa23f51388", func := "plugboard/plugboardlaw05.TogglesRun", spec := "togglesRun", unfollowed := true, recurses := true, apart := false, narrowed := true }
def TogglesRunUptoSaid : Prop := togglesRunUptoRow.holds Try.pinned (OpenSpec.upto togglesRunSpec)

/-- 'plugboardlaw05.TogglesOrder', WHERE WHAT IT READS IS OF BULK AT MOST 1048576: true; the input reads as it did. -/
def togglesOrderUptoRow : OpenClaim := { program := "ytphajgehfbimnaa", sum := "4002b0e5a0ff7abb27293bb6e03a4612aacb19cea1860544c71328fa23f51388", func := "plugboard/plugboardlaw05.TogglesOrder", spec := "togglesOrder", unfollowed := true, recurses := true, apart := false, narrowed := true }
def TogglesOrderUptoSaid : Prop := togglesOrderUptoRow.holds Try.pinned (OpenSpec.upto togglesOrderSpec)

/-- 'plugboardlaw05.TogglesClear', WHERE WHAT IT READS IS OF BULK AT MOST 1048576: true; the input reads as it did. -/
def togglesClearUptoRow : OpenClaim := { program := "ytphajgehfbimnaa", sum := "4002b0e5a0ff7abb27293bb6e03a4612aacb19cea1860544c71328fa23f51388", func := "plugboard/plugboardlaw05.TogglesClear", spec := "togglesClear", unfollowed := true, recurses := true, apart := false, narrowed := true }
def TogglesClearUptoSaid : Prop := togglesClearUptoRow.holds Try.pinned (OpenSpec.upto togglesClearSpec)

/-- 'plugboardlaw05.TogglesNew', WHERE WHAT IT READS IS OF BULK AT MOST 1048576: true; the input reads as it did. -/
def togglesNewUptoRow : OpenClaim := { program := "ytphajgehfbimnaa", sum := "4002b0e5a0ff7abb27293bb6e03a4612aacb19cea1860544c71328fa23f51388", func := "plugboard/plugboardlaw05.TogglesNew", spec := "togglesNew", unfollowed := true, recurses := true, apart := false, narrowed := true }
def TogglesNewUptoSaid : Prop := togglesNewUptoRow.holds Try.pinned (OpenSpec.upto togglesNewSpec)

/-- 'plugboardlaw05.TogglesSteps', WHERE WHAT IT READS IS OF BULK AT MOST 1048576: true; the input reads as it did. -/
def togglesStepsUptoRow : OpenClaim := { program := "ytphajgehfbimnaa", sum := "4002b0e5a0ff7abb27293bb6e03a4612aacb19cea1860544c71328fa23f51388", func := "plugboard/plugboardlaw05.TogglesSteps", spec := "togglesSteps", unfollowed := true, recurses := true, apart := false, narrowed := true }
def TogglesStepsUptoSaid : Prop := togglesStepsUptoRow.holds Try.pinned (OpenSpec.upto togglesStepsSpec)

/-- 'plugboardlaw42.AudiosRun', WHERE WHAT IT READS IS OF BULK AT MOST 1048576: true; the input reads as it did. -/
def audiosRunUptoRow : OpenClaim := { program := "ytphajgehfbimnaa", sum := "4002b0e5a0ff7abb27293bb6e03a4612aacb19cea1860544c71328fa23f51388", func := "plugboard/plugboardlaw42.AudiosRun", spec := "audiosRun", unfollowed := true, recurses := true, apart := false, narrowed := true }
def AudiosRunUptoSaid : Prop := audiosRunUptoRow.holds Try.pinned (OpenSpec.upto audiosRunSpec)

/-- 'plugboardlaw42.AudiosKeep', WHERE WHAT IT READS IS OF BULK AT MOST 1048576: true; the input reads as it did. -/
def audiosKeepUptoRow : OpenClaim := { program := "ytphajgehfbimnaa", sum := "4002b0e5a0ff7abb27293bb6e03a4612aacb19cea1860544c71328fa23f51388", func := "plugboard/plugboardlaw42.AudiosKeep", spec := "audiosKeep", unfollowed := true, recurses := true, apart := false, narrowed := true }
def AudiosKeepUptoSaid : Prop := audiosKeepUptoRow.holds Try.pinned (OpenSpec.upto audiosKeepSpec)

/-- 'plugboardlaw42.AudiosKnown', WHERE WHAT IT READS IS OF BULK AT MOST 1048576: true; the input reads as it did. -/
def audiosKnownUptoRow : OpenClaim := { program := "ytphajgehfbimnaa", sum := "4002b0e5a0ff7abb27293bb6e03a4612aacb19cea1860544c71328fa23f51388", func := "plugboard/plugboardlaw42.AudiosKnown", spec := "audiosKnown", unfollowed := true, recurses := true, apart := false, narrowed := true }
def AudiosKnownUptoSaid : Prop := audiosKnownUptoRow.holds Try.pinned (OpenSpec.upto audiosKnownSpec)

end Rows
end Go.Proofs.Ytphajgehfbimnaa
