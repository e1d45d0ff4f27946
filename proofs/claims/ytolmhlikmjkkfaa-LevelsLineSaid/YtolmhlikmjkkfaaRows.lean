/-
  No cell of these rows narrows 'for every input' (looked for: loops, veiled, ifaces, maps, wideKeys, modest, calm, conditions, laid).
  DERIVED. THE GIVEN ROWS OF THIS SEAT. 12 by the template 'for every input the law returns true; each argument reads behind the call as it read before'; 0 by the template 'total and deterministic' (their statements: YtolmhlikmjkkfaaTotals.lean).
  GIVEN WITH THE SEED: the statements are not yours to turn. If you find one false, say at which input.
  Laid BY PROGRAM, IN A SANDBOX (cutbox-rows.mjs): the forced cells as the released guide's own fill.sh prints them over the translation 061818c886eae3bb… (all of the seat's roots in one cut). By AI agents, Wed Nov 11 2026. No macro, syntax, notation, axiom, sorry.
-/
import Derived.Test.YtolmhlikmjkkfaaChecked
import GoSem.Claim
import GoSem.ClaimJoined
import GoSem.ClaimMapViews
import Derived.JoinedTies
import Derived.KernelRfl
namespace Go.Proofs.Ytolmhlikmjkkfaa
/- THE CELL 'sum', in the pinned program and in every row, IS THE sha256 OF THE DUMP (.gsa) THAT YtolmhlikmjkkfaaProg.lean LOADS. Nothing in Lean hashes anything: it is a label: what it is worth is what the hold of that sum in a sandbox is worth. -/
noncomputable def Try.pinned : Pinned := { name := "ytolmhlikmjkkfaa", sum := "061818c886eae3bb70e05a321eee017e9c3b4bea5798fdcf4d70d9aa680d2ad4", checked := Try.checked }
namespace Rows
def none {H : Type} : Left H := { results := [], args := [] }

/-- 'plugboardlaw02.ChecksFive': WHATEVER THE INPUT: true; the input reads as it did. -/
def checksFiveSpec : ChangeSpec := { name := "checksFive", fn := fun _ => fun
  | [d1, d2] => { results := [.lit (.bool true)], args := [d1, d2] }
  | _ => none }
def checksFiveRow : OpenClaim := { program := "ytolmhlikmjkkfaa", sum := "061818c886eae3bb70e05a321eee017e9c3b4bea5798fdcf4d70d9aa680d2ad4", func := "plugboard/plugboardlaw02.ChecksFive", spec := "checksFive", unfollowed := true, recurses := true, apart := false }
def ChecksFiveSaid : Prop := checksFiveRow.holds Try.pinned (OpenSpec.ofChange checksFiveSpec)

/-- ITS FALSE NEIGHBOUR: 'it returns false'. Refute it at one input. -/
def checksFiveWrong : ChangeSpec := { name := "checksFive", fn := fun _ => fun
  | [d1, d2] => { results := [.lit (.bool false)], args := [d1, d2] }
  | _ => none }
def ChecksFiveWrongFalsely : Prop := checksFiveRow.holds Try.pinned (OpenSpec.ofChange checksFiveWrong)

/-- 'plugboardlaw02.ChecksPart': WHATEVER THE INPUT: true; the input reads as it did. -/
def checksPartSpec : ChangeSpec := { name := "checksPart", fn := fun _ => fun
  | [d1, d2] => { results := [.lit (.bool true)], args := [d1, d2] }
  | _ => none }
def checksPartRow : OpenClaim := { program := "ytolmhlikmjkkfaa", sum := "061818c886eae3bb70e05a321eee017e9c3b4bea5798fdcf4d70d9aa680d2ad4", func := "plugboard/plugboardlaw02.ChecksPart", spec := "checksPart", unfollowed := true, recurses := true, apart := false }
def ChecksPartSaid : Prop := checksPartRow.holds Try.pinned (OpenSpec.ofChange checksPartSpec)

/-- ITS FALSE NEIGHBOUR: 'it returns false'. Refute it at one input. -/
def checksPartWrong : ChangeSpec := { name := "checksPart", fn := fun _ => fun
  | [d1, d2] => { results := [.lit (.bool false)], args := [d1, d2] }
  | _ => none }
def ChecksPartWrongFalsely : Prop := checksPartRow.holds Try.pinned (OpenSpec.ofChange checksPartWrong)

/-- 'plugboardlaw02.ChecksSixteen': WHATEVER THE INPUT: true; the input reads as it did. -/
def checksSixteenSpec : ChangeSpec := { name := "checksSixteen", fn := fun _ => fun
  | [d] => { results := [.lit (.bool true)], args := [d] }
  | _ => none }
def checksSixteenRow : OpenClaim := { program := "ytolmhlikmjkkfaa", sum := "061818c886eae3bb70e05a321eee017e9c3b4bea5798fdcf4d70d9aa680d2ad4", func := "plugboard/plugboardlaw02.ChecksSixteen", spec := "checksSixteen", unfollowed := true, recurses := true, apart := false }
def ChecksSixteenSaid : Prop := checksSixteenRow.holds Try.pinned (OpenSpec.ofChange checksSixteenSpec)

/-- ITS FALSE NEIGHBOUR: 'it returns false'. Refute it at one input. -/
def checksSixteenWrong : ChangeSpec := { name := "checksSixteen", fn := fun _ => fun
  | [d] => { results := [.lit (.bool false)], args := [d] }
  | _ => none }
def ChecksSixteenWrongFalsely : Prop := checksSixteenRow.holds Try.pinned (OpenSpec.ofChange checksSixteenWrong)

/-- 'plugboardlaw02.ChecksShort': WHATEVER THE INPUT: true; the input reads as it did. -/
def checksShortSpec : ChangeSpec := { name := "checksShort", fn := fun _ => fun
  | [d] => { results := [.lit (.bool true)], args := [d] }
  | _ => none }
def checksShortRow : OpenClaim := { program := "ytolmhlikmjkkfaa", sum := "061818c886eae3bb70e05a321eee017e9c3b4bea5798fdcf4d70d9aa680d2ad4", func := "plugboard/plugboardlaw02.ChecksShort", spec := "checksShort", unfollowed := true, recurses := true, apart := false }
def ChecksShortSaid : Prop := checksShortRow.holds Try.pinned (OpenSpec.ofChange checksShortSpec)

/-- ITS FALSE NEIGHBOUR: 'it returns false'. Refute it at one input. -/
def checksShortWrong : ChangeSpec := { name := "checksShort", fn := fun _ => fun
  | [d] => { results := [.lit (.bool false)], args := [d] }
  | _ => none }
def ChecksShortWrongFalsely : Prop := checksShortRow.holds Try.pinned (OpenSpec.ofChange checksShortWrong)

/-- 'plugboardlaw02.ChecksLong': WHATEVER THE INPUT: true; the input reads as it did. -/
def checksLongSpec : ChangeSpec := { name := "checksLong", fn := fun _ => fun
  | [d1, d2, d3] => { results := [.lit (.bool true)], args := [d1, d2, d3] }
  | _ => none }
def checksLongRow : OpenClaim := { program := "ytolmhlikmjkkfaa", sum := "061818c886eae3bb70e05a321eee017e9c3b4bea5798fdcf4d70d9aa680d2ad4", func := "plugboard/plugboardlaw02.ChecksLong", spec := "checksLong", unfollowed := true, recurses := true, apart := false }
def ChecksLongSaid : Prop := checksLongRow.holds Try.pinned (OpenSpec.ofChange checksLongSpec)

/-- ITS FALSE NEIGHBOUR: 'it returns false'. Refute it at one input. -/
def checksLongWrong : ChangeSpec := { name := "checksLong", fn := fun _ => fun
  | [d1, d2, d3] => { results := [.lit (.bool false)], args := [d1, d2, d3] }
  | _ => none }
def ChecksLongWrongFalsely : Prop := checksLongRow.holds Try.pinned (OpenSpec.ofChange checksLongWrong)

/-- 'plugboardlaw01.LevelsBits': WHATEVER THE INPUT: true; the input reads as it did. -/
def levelsBitsSpec : ChangeSpec := { name := "levelsBits", fn := fun _ => fun
  | [d1, d2] => { results := [.lit (.bool true)], args := [d1, d2] }
  | _ => none }
def levelsBitsRow : OpenClaim := { program := "ytolmhlikmjkkfaa", sum := "061818c886eae3bb70e05a321eee017e9c3b4bea5798fdcf4d70d9aa680d2ad4", func := "plugboard/plugboardlaw01.LevelsBits", spec := "levelsBits", apart := false }
def LevelsBitsSaid : Prop := levelsBitsRow.holds Try.pinned (OpenSpec.ofChange levelsBitsSpec)

/-- ITS FALSE NEIGHBOUR: 'it returns false'. Refute it at one input. -/
def levelsBitsWrong : ChangeSpec := { name := "levelsBits", fn := fun _ => fun
  | [d1, d2] => { results := [.lit (.bool false)], args := [d1, d2] }
  | _ => none }
def LevelsBitsWrongFalsely : Prop := levelsBitsRow.holds Try.pinned (OpenSpec.ofChange levelsBitsWrong)

/-- 'plugboardlaw01.LevelsStuff': WHATEVER THE INPUT: true; the input reads as it did. -/
def levelsStuffSpec : ChangeSpec := { name := "levelsStuff", fn := fun _ => fun
  | [d] => { results := [.lit (.bool true)], args := [d] }
  | _ => none }
def levelsStuffRow : OpenClaim := { program := "ytolmhlikmjkkfaa", sum := "061818c886eae3bb70e05a321eee017e9c3b4bea5798fdcf4d70d9aa680d2ad4", func := "plugboard/plugboardlaw01.LevelsStuff", spec := "levelsStuff", apart := false }
def LevelsStuffSaid : Prop := levelsStuffRow.holds Try.pinned (OpenSpec.ofChange levelsStuffSpec)

/-- ITS FALSE NEIGHBOUR: 'it returns false'. Refute it at one input. -/
def levelsStuffWrong : ChangeSpec := { name := "levelsStuff", fn := fun _ => fun
  | [d] => { results := [.lit (.bool false)], args := [d] }
  | _ => none }
def LevelsStuffWrongFalsely : Prop := levelsStuffRow.holds Try.pinned (OpenSpec.ofChange levelsStuffWrong)

/-- 'plugboardlaw01.LevelsSend': WHATEVER THE INPUT: true; the input reads as it did. -/
def levelsSendSpec : ChangeSpec := { name := "levelsSend", fn := fun _ => fun
  | [d1, d2] => { results := [.lit (.bool true)], args := [d1, d2] }
  | _ => none }
def levelsSendRow : OpenClaim := { program := "ytolmhlikmjkkfaa", sum := "061818c886eae3bb70e05a321eee017e9c3b4bea5798fdcf4d70d9aa680d2ad4", func := "plugboard/plugboardlaw01.LevelsSend", spec := "levelsSend", apart := false }
def LevelsSendSaid : Prop := levelsSendRow.holds Try.pinned (OpenSpec.ofChange levelsSendSpec)

/-- ITS FALSE NEIGHBOUR: 'it returns false'. Refute it at one input. -/
def levelsSendWrong : ChangeSpec := { name := "levelsSend", fn := fun _ => fun
  | [d1, d2] => { results := [.lit (.bool false)], args := [d1, d2] }
  | _ => none }
def LevelsSendWrongFalsely : Prop := levelsSendRow.holds Try.pinned (OpenSpec.ofChange levelsSendWrong)

/-- 'plugboardlaw01.LevelsReceive': WHATEVER THE INPUT: true; the input reads as it did. -/
def levelsReceiveSpec : ChangeSpec := { name := "levelsReceive", fn := fun _ => fun
  | [d1, d2, d3] => { results := [.lit (.bool true)], args := [d1, d2, d3] }
  | _ => none }
def levelsReceiveRow : OpenClaim := { program := "ytolmhlikmjkkfaa", sum := "061818c886eae3bb70e05a321eee017e9c3b4bea5798fdcf4d70d9aa680d2ad4", func := "plugboard/plugboardlaw01.LevelsReceive", spec := "levelsReceive", apart := false }
def LevelsReceiveSaid : Prop := levelsReceiveRow.holds Try.pinned (OpenSpec.ofChange levelsReceiveSpec)

/-- ITS FALSE NEIGHBOUR: 'it returns false'. Refute it at one input. -/
def levelsReceiveWrong : ChangeSpec := { name := "levelsReceive", fn := fun _ => fun
  | [d1, d2, d3] => { results := [.lit (.bool false)], args := [d1, d2, d3] }
  | _ => none }
def LevelsReceiveWrongFalsely : Prop := levelsReceiveRow.holds Try.pinned (OpenSpec.ofChange levelsReceiveWrong)

/-- 'plugboardlaw01.LevelsChange': WHATEVER THE INPUT: true; the input reads as it did. -/
def levelsChangeSpec : ChangeSpec := { name := "levelsChange", fn := fun _ => fun
  | [d1, d2, d3] => { results := [.lit (.bool true)], args := [d1, d2, d3] }
  | _ => none }
def levelsChangeRow : OpenClaim := { program := "ytolmhlikmjkkfaa", sum := "061818c886eae3bb70e05a321eee017e9c3b4bea5798fdcf4d70d9aa680d2ad4", func := "plugboard/plugboardlaw01.LevelsChange", spec := "levelsChange", apart := false }
def LevelsChangeSaid : Prop := levelsChangeRow.holds Try.pinned (OpenSpec.ofChange levelsChangeSpec)

/-- ITS FALSE NEIGHBOUR: 'it returns false'. Refute it at one input. -/
def levelsChangeWrong : ChangeSpec := { name := "levelsChange", fn := fun _ => fun
  | [d1, d2, d3] => { results := [.lit (.bool false)], args := [d1, d2, d3] }
  | _ => none }
def LevelsChangeWrongFalsely : Prop := levelsChangeRow.holds Try.pinned (OpenSpec.ofChange levelsChangeWrong)

/-- 'plugboardlaw01.LevelsLine': WHATEVER THE INPUT: true; the input reads as it did. -/
def levelsLineSpec : ChangeSpec := { name := "levelsLine", fn := fun _ => fun
  | [d] => { results := [.lit (.bool true)], args := [d] }
  | _ => none }
def levelsLineRow : OpenClaim := { program := "ytolmhlikmjkkfaa", sum := "061818c886eae3bb70e05a321eee017e9c3b4bea5798fdcf4d70d9aa680d2ad4", func := "plugboard/plugboardlaw01.LevelsLine", spec := "levelsLine", apart := false }
def LevelsLineSaid : Prop := levelsLineRow.holds Try.pinned (OpenSpec.ofChange levelsLineSpec)

/-- ITS FALSE NEIGHBOUR: 'it returns false'. Refute it at one input. -/
def levelsLineWrong : ChangeSpec := { name := "levelsLine", fn := fun _ => fun
  | [d] => { results := [.lit (.bool false)], args := [d] }
  | _ => none }
def LevelsLineWrongFalsely : Prop := levelsLineRow.holds Try.pinned (OpenSpec.ofChange levelsLineWrong)

/-- 'plugboardlaw01.LevelsStates': WHATEVER THE INPUT: true; the input reads as it did. -/
def levelsStatesSpec : ChangeSpec := { name := "levelsStates", fn := fun _ => fun
  | [d1, d2] => { results := [.lit (.bool true)], args := [d1, d2] }
  | _ => none }
def levelsStatesRow : OpenClaim := { program := "ytolmhlikmjkkfaa", sum := "061818c886eae3bb70e05a321eee017e9c3b4bea5798fdcf4d70d9aa680d2ad4", func := "plugboard/plugboardlaw01.LevelsStates", spec := "levelsStates", apart := false }
def LevelsStatesSaid : Prop := levelsStatesRow.holds Try.pinned (OpenSpec.ofChange levelsStatesSpec)

/-- ITS FALSE NEIGHBOUR: 'it returns false'. Refute it at one input. -/
def levelsStatesWrong : ChangeSpec := { name := "levelsStates", fn := fun _ => fun
  | [d1, d2] => { results := [.lit (.bool false)], args := [d1, d2] }
  | _ => none }
def LevelsStatesWrongFalsely : Prop := levelsStatesRow.holds Try.pinned (OpenSpec.ofChange levelsStatesWrong)

/- THE SECOND FORM. 'bulk': how many values and letters a reading holds, each counted each time it is reached (what is shared counts as often as it is met; a slice's spare places count too). A statement '..UptoSaid' is the law's where the arguments, and the package variables that the reading takes, are together of bulk at most 1048576: NARROWER than '..Said'. Prove '..Said' where nothing that the law and all that it calls make is longer than what came in: it says more and counts as full. Else prove '..UptoSaid'. A law counts once. -/
mutual
def uptoBulk {H : Type} : DataW H → Nat
  | .lit (.string bytes) => bytes.length + 1
  | .lit _ => 1
  | .nil => 1
  | .ptr d => uptoBulk d + 1
  | .slice elems spare => uptoBulkAll elems + uptoBulkAll spare + 1
  | .agg parts => uptoBulkAll parts + 1
  | .iface _ d => uptoBulk d + 1
  | .map entries => uptoBulkEntries entries + 1
  | .held _ => 1
def uptoBulkAll {H : Type} : List (DataW H) → Nat
  | [] => 0
  | d :: r => uptoBulk d + uptoBulkAll r
def uptoBulkEntries {H : Type} : List (Lit × DataW H) → Nat
  | [] => 0
  | x :: r => uptoBulkEntry x + uptoBulkEntries r
def uptoBulkEntry {H : Type} : Lit × DataW H → Nat
  | (.string bytes, d) => bytes.length + uptoBulk d + 1
  | (_, d) => uptoBulk d + 1
 end
def uptoSmall : (H : Type) → List (DataW H) → Bool := fun _ ds => decide (uptoBulkAll ds ≤ 1048576)
def OpenSpec.upto (s : _root_.Go.ChangeSpec) : _root_.Go.OpenSpec := { _root_.Go.OpenSpec.ofChange s with cond := some uptoSmall }

/-- 'plugboardlaw02.ChecksFive', WHERE WHAT IT READS IS OF BULK AT MOST 1048576: true; the input reads as it did. -/
def checksFiveUptoRow : OpenClaim := { program := "ytolmhlikmjkkfaa", sum := "061818c886eae3bb70e05a321eee017e9c3b4bea5798fdcf4d70d9aa680d2ad4", func := "plugboard/plugboardlaw02.ChecksFive", spec := "checksFive", unfollowed := true, recurses := true, apart := false, narrowed := true }
def ChecksFiveUptoSaid : Prop := checksFiveUptoRow.holds Try.pinned (OpenSpec.upto checksFiveSpec)

/-- 'plugboardlaw02.ChecksPart', WHERE WHAT IT READS IS OF BULK AT MOST 1048576: true; the input reads as it did. -/
def checksPartUptoRow : OpenClaim := { program := "ytolmhlikmjkkfaa", sum := "061818c886eae3bb70e05a321eee017e9c3b4bea5798fdcf4d70d9aa680d2ad4", func := "plugboard/plugboardlaw02.ChecksPart", spec := "checksPart", unfollowed := true, recurses := true, apart := false, narrowed := true }
def ChecksPartUptoSaid : Prop := checksPartUptoRow.holds Try.pinned (OpenSpec.upto checksPartSpec)

/-- 'plugboardlaw02.ChecksSixteen', WHERE WHAT IT READS IS OF BULK AT MOST 1048576: true; the input reads as it did. -/
def checksSixteenUptoRow : OpenClaim := { program := "ytolmhlikmjkkfaa", sum := "061818c886eae3bb70e05a321eee017e9c3b4bea5798fdcf4d70d9aa680d2ad4", func := "plugboard/plugboardlaw02.ChecksSixteen", spec := "checksSixteen", unfollowed := true, recurses := true, apart := false, narrowed := true }
def ChecksSixteenUptoSaid : Prop := checksSixteenUptoRow.holds Try.pinned (OpenSpec.upto checksSixteenSpec)

/-- 'plugboardlaw02.ChecksShort', WHERE WHAT IT READS IS OF BULK AT MOST 1048576: true; the input reads as it did. -/
def checksShortUptoRow : OpenClaim := { program := "ytolmhlikmjkkfaa", sum := "061818c886eae3bb70e05a321eee017e9c3b4bea5798fdcf4d70d9aa680d2ad4", func := "plugboard/plugboardlaw02.ChecksShort", spec := "checksShort", unfollowed := true, recurses := true, apart := false, narrowed := true }
def ChecksShortUptoSaid : Prop := checksShortUptoRow.holds Try.pinned (OpenSpec.upto checksShortSpec)

/-- 'plugboardlaw02.ChecksLong', WHERE WHAT IT READS IS OF BULK AT MOST 1048576: true; the input reads as it did. -/
def checksLongUptoRow : OpenClaim := { program := "ytolmhlikmjkkfaa", sum := "061818c886eae3bb70e05a321eee017e9c3b4bea5798fdcf4d70d9aa680d2ad4", func := "plugboard/plugboardlaw02.ChecksLong", spec := "checksLong", unfollowed := true, recurses := true, apart := false, narrowed := true }
def ChecksLongUptoSaid : Prop := checksLongUptoRow.holds Try.pinned (OpenSpec.upto checksLongSpec)

/-- 'plugboardlaw01.LevelsBits', WHERE WHAT IT READS IS OF BULK AT MOST 1048576: true; the input reads as it did. -/
def levelsBitsUptoRow : OpenClaim := { program := "ytolmhlikmjkkfaa", sum := "061818c886eae3bb70e05a321eee017e9c3b4bea5798fdcf4d70d9aa680d2ad4", func := "plugboard/plugboardlaw01.LevelsBits", spec := "levelsBits", apart := false, narrowed := true }
def LevelsBitsUptoSaid : Prop := levelsBitsUptoRow.holds Try.pinned (OpenSpec.upto levelsBitsSpec)

/-- 'plugboardlaw01.LevelsStuff', WHERE WHAT IT READS IS OF BULK AT MOST 1048576: true; the input reads as it did. -/
def levelsStuffUptoRow : OpenClaim := { program := "ytolmhlikmjkkfaa", sum := "061818c886eae3bb70e05a321eee017e9c3b4bea5798fdcf4d70d9aa680d2ad4", func := "plugboard/plugboardlaw01.LevelsStuff", spec := "levelsStuff", apart := false, narrowed := true }
def LevelsStuffUptoSaid : Prop := levelsStuffUptoRow.holds Try.pinned (OpenSpec.upto levelsStuffSpec)

/-- 'plugboardlaw01.LevelsSend', WHERE WHAT IT READS IS OF BULK AT MOST 1048576: true; the input reads as it did. -/
def levelsSendUptoRow : OpenClaim := { program := "ytolmhlikmjkkfaa", sum := "061818c886eae3bb70e05a321eee017e9c3b4bea5798fdcf4d70d9aa680d2ad4", func := "plugboard/plugboardlaw01.LevelsSend", spec := "levelsSend", apart := false, narrowed := true }
def LevelsSendUptoSaid : Prop := levelsSendUptoRow.holds Try.pinned (OpenSpec.upto levelsSendSpec)

/-- 'plugboardlaw01.LevelsReceive', WHERE WHAT IT READS IS OF BULK AT MOST 1048576: true; the input reads as it did. -/
def levelsReceiveUptoRow : OpenClaim := { program := "ytolmhlikmjkkfaa", sum := "061818c886eae3bb70e05a321eee017e9c3b4bea5798fdcf4d70d9aa680d2ad4", func := "plugboard/plugboardlaw01.LevelsReceive", spec := "levelsReceive", apart := false, narrowed := true }
def LevelsReceiveUptoSaid : Prop := levelsReceiveUptoRow.holds Try.pinned (OpenSpec.upto levelsReceiveSpec)

/-- 'plugboardlaw01.LevelsChange', WHERE WHAT IT READS IS OF BULK AT MOST 1048576: true; the input reads as it did. -/
def levelsChangeUptoRow : OpenClaim := { program := "ytolmhlikmjkkfaa", sum := "061818c886eae3bb70e05a321eee017e9c3b4bea5798fdcf4d70d9aa680d2ad4", func := "plugboard/plugboardlaw01.LevelsChange", spec := "levelsChange", apart := false, narrowed := true }
def LevelsChangeUptoSaid : Prop := levelsChangeUptoRow.holds Try.pinned (OpenSpec.upto levelsChangeSpec)

/-- 'plugboardlaw01.LevelsLine', WHERE WHAT IT READS IS OF BULK AT MOST 1048576: true; the input reads as it did. -/
def levelsLineUptoRow : OpenClaim := { program := "ytolmhlikmjkkfaa", sum := "061818c886eae3bb70e05a321eee017e9c3b4bea5798fdcf4d70d9aa680d2ad4", func := "plugboard/plugboardlaw01.LevelsLine", spec := "levelsLine", apart := false, narrowed := true }
def LevelsLineUptoSaid : Prop := levelsLineUptoRow.holds Try.pinned (OpenSpec.upto levelsLineSpec)

/-- 'plugboardlaw01.LevelsStates', WHERE WHAT IT READS IS OF BULK AT MOST 1048576: true; the input reads as it did. -/
def levelsStatesUptoRow : OpenClaim := { program := "ytolmhlikmjkkfaa", sum := "061818c886eae3bb70e05a321eee017e9c3b4bea5798fdcf4d70d9aa680d2ad4", func := "plugboard/plugboardlaw01.LevelsStates", spec := "levelsStates", apart := false, narrowed := true }
def LevelsStatesUptoSaid : Prop := levelsStatesUptoRow.holds Try.pinned (OpenSpec.upto levelsStatesSpec)

end Rows
end Go.Proofs.Ytolmhlikmjkkfaa
