/-
  No cell of these rows narrows 'for every input' (looked for: loops, veiled, ifaces, maps, wideKeys, modest, calm, conditions, laid).
  DERIVED. THE GIVEN ROWS OF THIS SEAT. 5 by the template 'for every input the law returns true; each argument reads behind the call as it read before'; 0 by the template 'total and deterministic' (their statements: YtpdbekbobkjfgaaTotals.lean).
  GIVEN WITH THE SEED: the statements are not yours to turn. If you find one false, say at which input.
  Laid BY PROGRAM, IN A SANDBOX (cutbox-rows.mjs): the forced cells as the released guide's own fill.sh prints them over the translation e52a42af27fb6431… (all of the seat's roots in one cut). By AI agents, Wed Nov 11 2026. No macro, syntax, notation, axiom, sorry.
-/
import Derived.Test.YtpdbekbobkjfgaaChecked
import GoSem.Claim
import GoSem.ClaimJoined
import GoSem.ClaimMapViews
import Derived.JoinedTies
import Derived.KernelRfl
namespace Go.Proofs.Ytpdbekbobkjfgaa
/- THE CELL 'sum', in the pinned program and in every row, IS THE sha256 OF THE DUMP (.gsa) THAT YtpdbekbobkjfgaaProg.lean LOADS. Nothing in Lean hashes anything: it is a label: what it is worth is what the hold of that sum in a sandbox is worth. -/
noncomputable def Try.pinned : Pinned := { name := "ytpdbekbobkjfgaa", sum := "e52a42af27fb6431d8a513b9586ee089d1f1c1f0dce9e4ca937580a9634cc32a", checked := Try.checked }
namespace Rows
def none {H : Type} : Left H := { results := [], args := [] }

/-- 'plugboardlaw04.SpeedsSent': WHATEVER THE INPUT: true; the input reads as it did. -/
def speedsSentSpec : ChangeSpec := { name := "speedsSent", fn := fun _ => fun
  | [d1, d2, d3] => { results := [.lit (.bool true)], args := [d1, d2, d3] }
  | _ => none }
def speedsSentRow : OpenClaim := { program := "ytpdbekbobkjfgaa", sum := "e52a42af27fb6431d8a513b9586ee089d1f1c1f0dce9e4ca937580a9634cc32a", func := "plugboard/plugboardlaw04.SpeedsSent", spec := "speedsSent", unfollowed := true, recurses := true, apart := false }
def SpeedsSentSaid : Prop := speedsSentRow.holds Try.pinned (OpenSpec.ofChange speedsSentSpec)

/-- ITS FALSE NEIGHBOUR: 'it returns false'. Refute it at one input. -/
def speedsSentWrong : ChangeSpec := { name := "speedsSent", fn := fun _ => fun
  | [d1, d2, d3] => { results := [.lit (.bool false)], args := [d1, d2, d3] }
  | _ => none }
def SpeedsSentWrongFalsely : Prop := speedsSentRow.holds Try.pinned (OpenSpec.ofChange speedsSentWrong)

/-- 'plugboardlaw06.TransactionsSpeak': WHATEVER THE INPUT: true; the input reads as it did. -/
def transactionsSpeakSpec : ChangeSpec := { name := "transactionsSpeak", fn := fun _ => fun
  | [d1, d2] => { results := [.lit (.bool true)], args := [d1, d2] }
  | _ => none }
def transactionsSpeakRow : OpenClaim := { program := "ytpdbekbobkjfgaa", sum := "e52a42af27fb6431d8a513b9586ee089d1f1c1f0dce9e4ca937580a9634cc32a", func := "plugboard/plugboardlaw06.TransactionsSpeak", spec := "transactionsSpeak", unfollowed := true, recurses := true, apart := false }
def TransactionsSpeakSaid : Prop := transactionsSpeakRow.holds Try.pinned (OpenSpec.ofChange transactionsSpeakSpec)

/-- ITS FALSE NEIGHBOUR: 'it returns false'. Refute it at one input. -/
def transactionsSpeakWrong : ChangeSpec := { name := "transactionsSpeak", fn := fun _ => fun
  | [d1, d2] => { results := [.lit (.bool false)], args := [d1, d2] }
  | _ => none }
def TransactionsSpeakWrongFalsely : Prop := transactionsSpeakRow.holds Try.pinned (OpenSpec.ofChange transactionsSpeakWrong)

/-- 'plugboardlaw06.TransactionsDo': WHATEVER THE INPUT: true; the input reads as it did. -/
def transactionsDoSpec : ChangeSpec := { name := "transactionsDo", fn := fun _ => fun
  | [d1, d2] => { results := [.lit (.bool true)], args := [d1, d2] }
  | _ => none }
def transactionsDoRow : OpenClaim := { program := "ytpdbekbobkjfgaa", sum := "e52a42af27fb6431d8a513b9586ee089d1f1c1f0dce9e4ca937580a9634cc32a", func := "plugboard/plugboardlaw06.TransactionsDo", spec := "transactionsDo", unfollowed := true, recurses := true, apart := false }
def TransactionsDoSaid : Prop := transactionsDoRow.holds Try.pinned (OpenSpec.ofChange transactionsDoSpec)

/-- ITS FALSE NEIGHBOUR: 'it returns false'. Refute it at one input. -/
def transactionsDoWrong : ChangeSpec := { name := "transactionsDo", fn := fun _ => fun
  | [d1, d2] => { results := [.lit (.bool false)], args := [d1, d2] }
  | _ => none }
def TransactionsDoWrongFalsely : Prop := transactionsDoRow.holds Try.pinned (OpenSpec.ofChange transactionsDoWrong)

/-- 'plugboardlaw06.TransactionsLine': WHATEVER THE INPUT: true; the input reads as it did. -/
def transactionsLineSpec : ChangeSpec := { name := "transactionsLine", fn := fun _ => fun
  | [d1, d2] => { results := [.lit (.bool true)], args := [d1, d2] }
  | _ => none }
def transactionsLineRow : OpenClaim := { program := "ytpdbekbobkjfgaa", sum := "e52a42af27fb6431d8a513b9586ee089d1f1c1f0dce9e4ca937580a9634cc32a", func := "plugboard/plugboardlaw06.TransactionsLine", spec := "transactionsLine", unfollowed := true, recurses := true, apart := false }
def TransactionsLineSaid : Prop := transactionsLineRow.holds Try.pinned (OpenSpec.ofChange transactionsLineSpec)

/-- ITS FALSE NEIGHBOUR: 'it returns false'. Refute it at one input. -/
def transactionsLineWrong : ChangeSpec := { name := "transactionsLine", fn := fun _ => fun
  | [d1, d2] => { results := [.lit (.bool false)], args := [d1, d2] }
  | _ => none }
def TransactionsLineWrongFalsely : Prop := transactionsLineRow.holds Try.pinned (OpenSpec.ofChange transactionsLineWrong)

/-- 'plugboardlaw06.TransactionsCheck': WHATEVER THE INPUT: true; the input reads as it did. -/
def transactionsCheckSpec : ChangeSpec := { name := "transactionsCheck", fn := fun _ => fun
  | [d] => { results := [.lit (.bool true)], args := [d] }
  | _ => none }
def transactionsCheckRow : OpenClaim := { program := "ytpdbekbobkjfgaa", sum := "e52a42af27fb6431d8a513b9586ee089d1f1c1f0dce9e4ca937580a9634cc32a", func := "plugboard/plugboardlaw06.TransactionsCheck", spec := "transactionsCheck", unfollowed := true, recurses := true, apart := false }
def TransactionsCheckSaid : Prop := transactionsCheckRow.holds Try.pinned (OpenSpec.ofChange transactionsCheckSpec)

/-- ITS FALSE NEIGHBOUR: 'it returns false'. Refute it at one input. -/
def transactionsCheckWrong : ChangeSpec := { name := "transactionsCheck", fn := fun _ => fun
  | [d] => { results := [.lit (.bool false)], args := [d] }
  | _ => none }
def TransactionsCheckWrongFalsely : Prop := transactionsCheckRow.holds Try.pinned (OpenSpec.ofChange transactionsCheckWrong)

/- THE SECOND FORM. 'bulk': how many values and letters a reading holds, each counted each time it is reached (what is shared counts as often as it is met; a slice's spare places count too). A statement '..UptoSaid' is the law's where the arguments, and the package variables that the reading takes, are together of bulk at most 1048576: NARROWER than '..Said'. Prove '..Said' where nothing that the law and all that it calls make is longer than what came in: it says more and counts as full. Else prove '..UptoSaid'. A law counts once. -/
mutual
def uptoBulk {H : Type} : DataW H → Nat
  | .lit (.string bytes) => bytes.length + 1
  | .lit _ => 1
  | .nil => 1
  | .ptr d => uptoBulk d + 1
  | .slice elems spare => uptoBulkAll elems + uptoBulkAll spare + 1
  | .agg parts => uptoBulkAll parts + 1
  | .iface _ d => uptoBulk d + 1
  | .map entries => uptoBulkEntries entries + 1
  | .held _ => 1
def uptoBulkAll {H : Type} : List (DataW H) → Nat
  | [] => 0
  | d :: r => uptoBulk d + uptoBulkAll r
def uptoBulkEntries {H : Type} : List (Lit × DataW H) → Nat
  | [] => 0
  | x :: r => uptoBulkEntry x + uptoBulkEntries r
def uptoBulkEntry {H : Type} : Lit × DataW H → Nat
  | (.string bytes, d) => bytes.length + uptoBulk d + 1
  | (_, d) => uptoBulk d + 1
 end
def uptoSmall : (H : Type) → List (DataW H) → Bool := fun _ ds => decide (uptoBulkAll ds ≤ 1048576)
def OpenSpec.upto (s : _root_.Go.ChangeSpec) : _root_.Go.OpenSpec := { _root_.Go.OpenSpec.ofChange s with cond := some uptoSmall }

/-- 'plugboardlaw04.SpeedsSent', WHERE WHAT IT READS IS OF BULK AT MOST 1048576: true; the input reads as it did. -/
def speedsSentUptoRow : OpenClaim := { program := "ytpdbekbobkjfgaa", sum := "e52a42af27fb6431d8a513b9586ee089d1f1c1f0dce9e4ca937580a9634cc32a", func := "plugboard/plugboardlaw04.SpeedsSent", spec := "speedsSent", unfollowed := true, recurses := true, apart := false, narrowed := true }
def SpeedsSentUptoSaid : Prop := speedsSentUptoRow.holds Try.pinned (OpenSpec.upto speedsSentSpec)

/-- 'plugboardlaw06.TransactionsSpeak', WHERE WHAT IT READS IS OF BULK AT MOST 1048576: true; the input reads as it did. -/
def transactionsSpeakUptoRow : OpenClaim := { program := "ytpdbekbobkjfgaa", sum := "e52a42af27fb6431d8a513b9586ee089d1f1c1f0dce9e4ca937580a9634cc32a", func := "plugboard/plugboardlaw06.TransactionsSpeak", spec := "transactionsSpeak", unfollowed := true, recurses := true, apart := false, narrowed := true }
def TransactionsSpeakUptoSaid : Prop := transactionsSpeakUptoRow.holds Try.pinned (OpenSpec.upto transactionsSpeakSpec)

/-- 'plugboardlaw06.TransactionsDo', WHERE WHAT IT READS IS OF BULK AT MOST 1048576: true; the input reads as it did. -/
def transactionsDoUptoRow : OpenClaim := { program := "ytpdbekbobkjfgaa", sum := "e52a42af27fb6431d8a513b9586ee089d1f1c1f0dce9e4ca937580a9634cc32a", func := "plugboard/plugboardlaw06.TransactionsDo", spec := "transactionsDo", unfollowed := true, recurses := true, apart := false, narrowed := true }
def TransactionsDoUptoSaid : Prop := transactionsDoUptoRow.holds Try.pinned (OpenSpec.upto transactionsDoSpec)

/-- 'plugboardlaw06.TransactionsLine', WHERE WHAT IT READS IS OF BULK AT MOST 1048576: true; the input reads as it did. -/
def transactionsLineUptoRow : OpenClaim := { program := "ytpdbekbobkjfgaa", sum := "e52a42af27fb6431d8a513b9586ee089d1f1c1f0dce9e4ca937580a9634cc32a", func := "plugboard/plugboardlaw06.TransactionsLine", spec := "transactionsLine", unfollowed := true, recurses := true, apart := false, narrowed := true }
def TransactionsLineUptoSaid : Prop := transactionsLineUptoRow.holds Try.pinned (OpenSpec.upto transactionsLineSpec)

/-- 'plugboardlaw06.TransactionsCheck', WHERE WHAT IT READS IS OF BULK AT MOST 1048576: true; the input reads as it did. -/
def transactionsCheckUptoRow : OpenClaim := { program := "ytpdbekbobkjfgaa", sum := "e52a42af27fb6431d8a513b9586ee089d1f1c1f0dce9e4ca937580a9634cc32a", func := "plugboard/plugboardlaw06.TransactionsCheck", spec := "transactionsCheck", unfollowed := true, recurses := true, apart := false, narrowed := true }
def TransactionsCheckUptoSaid : Prop := transactionsCheckUptoRow.holds Try.pinned (OpenSpec.upto transactionsCheckSpec)

end Rows
end Go.Proofs.Ytpdbekbobkjfgaa
