/-
  NARROWER THAN 'FOR EVERY INPUT', by the rows' own cells (each row's printed sentence says how): EndpointsNew: laid · EndpointsWrite: laid · EndpointsRead: laid · EndpointsIso: laid · EndpointsUse: laid · EndpointsScript: laid · UrbsErrors: laid · UrbsHalt: laid.
  DERIVED. THE GIVEN ROWS OF THIS SEAT. 8 by the template 'for every input the law returns true; each argument reads behind the call as it read before'; 0 by the template 'total and deterministic' (their statements: YtngghkoghbpceaaDoorTotals.lean).
  GIVEN WITH THE SEED: the statements are not yours to turn. If you find one false, say at which input.
  Laid BY PROGRAM, IN A SANDBOX (cutbox-rows.mjs): the forced cells as the released guide's own fill.sh prints them over the translation e0ef677e8c5e7a41… (all of the seat's roots in one cut). By AI agents, Wed Nov 11 2026. No macro, syntax, notation, axiom, sorry.
-/
import Derived.Test.YtngghkoghbpceaaDoorChecked
import GoSem.Claim
import GoSem.ClaimJoined
import GoSem.ClaimMapViews
import Derived.JoinedTies
import Derived.KernelRfl
namespace Go.Proofs.YtngghkoghbpceaaDoor
/- THE CELL 'sum', in the pinned program and in every row, IS THE sha256 OF THE DUMP (.gsa) THAT YtngghkoghbpceaaDoorProg.lean LOADS. Nothing in Lean hashes anything: it is a label: what it is worth is what the hold of that sum in a sandbox is worth. -/
noncomputable def Tryd.pinned : Pinned := { name := "ytngghkoghbpceaadoor", sum := "e0ef677e8c5e7a41f22888cdc4445177ce729770f4d88eae906bc9b9e7f9a1db", checked := Tryd.checked }
namespace Rows
def none {H : Type} : Left H := { results := [], args := [] }

/- WHAT THE LISTED PACKAGE-LEVEL VARIABLES READ AS WHEN THE CALL BEGINS. Each datum BY PROGRAM (the guide's laid-datum.mjs) off the statement by which the dump's own 'gosem.cut.vars' lays the variable. In a bare row this is a premise. The card (YtngghkoghbpceaaDoorCards.lean) ties it to the program's text. -/
def laid_math_bits_deBruijn32tab {H : Type} : DataW H := .agg [.lit (.int .u8 0), .lit (.int .u8 1), .lit (.int .u8 28), .lit (.int .u8 2), .lit (.int .u8 29), .lit (.int .u8 14), .lit (.int .u8 24), .lit (.int .u8 3), .lit (.int .u8 30), .lit (.int .u8 22), .lit (.int .u8 20), .lit (.int .u8 15), .lit (.int .u8 25), .lit (.int .u8 17), .lit (.int .u8 4), .lit (.int .u8 8), .lit (.int .u8 31), .lit (.int .u8 27), .lit (.int .u8 13), .lit (.int .u8 23), .lit (.int .u8 21), .lit (.int .u8 19), .lit (.int .u8 16), .lit (.int .u8 7), .lit (.int .u8 26), .lit (.int .u8 12), .lit (.int .u8 18), .lit (.int .u8 6), .lit (.int .u8 11), .lit (.int .u8 5), .lit (.int .u8 10), .lit (.int .u8 9)]
def laid_math_bits_deBruijn64tab {H : Type} : DataW H := .agg [.lit (.int .u8 0), .lit (.int .u8 1), .lit (.int .u8 56), .lit (.int .u8 2), .lit (.int .u8 57), .lit (.int .u8 49), .lit (.int .u8 28), .lit (.int .u8 3), .lit (.int .u8 61), .lit (.int .u8 58), .lit (.int .u8 42), .lit (.int .u8 50), .lit (.int .u8 38), .lit (.int .u8 29), .lit (.int .u8 17), .lit (.int .u8 4), .lit (.int .u8 62), .lit (.int .u8 47), .lit (.int .u8 59), .lit (.int .u8 36), .lit (.int .u8 45), .lit (.int .u8 43), .lit (.int .u8 51), .lit (.int .u8 22), .lit (.int .u8 53), .lit (.int .u8 39), .lit (.int .u8 33), .lit (.int .u8 30), .lit (.int .u8 24), .lit (.int .u8 18), .lit (.int .u8 12), .lit (.int .u8 5), .lit (.int .u8 63), .lit (.int .u8 55), .lit (.int .u8 48), .lit (.int .u8 27), .lit (.int .u8 60), .lit (.int .u8 41), .lit (.int .u8 37), .lit (.int .u8 16), .lit (.int .u8 46), .lit (.int .u8 35), .lit (.int .u8 44), .lit (.int .u8 21), .lit (.int .u8 52), .lit (.int .u8 32), .lit (.int .u8 23), .lit (.int .u8 11), .lit (.int .u8 54), .lit (.int .u8 26), .lit (.int .u8 40), .lit (.int .u8 15), .lit (.int .u8 34), .lit (.int .u8 20), .lit (.int .u8 31), .lit (.int .u8 10), .lit (.int .u8 25), .lit (.int .u8 14), .lit (.int .u8 19), .lit (.int .u8 9), .lit (.int .u8 13), .lit (.int .u8 8), .lit (.int .u8 7), .lit (.int .u8 6)]
def laid_internal_strconv_uint64pow10 {H : Type} : DataW H := .agg [.lit (.int .u64 1), .lit (.int .u64 10), .lit (.int .u64 100), .lit (.int .u64 1000), .lit (.int .u64 10000), .lit (.int .u64 100000), .lit (.int .u64 1000000), .lit (.int .u64 10000000), .lit (.int .u64 100000000), .lit (.int .u64 1000000000), .lit (.int .u64 10000000000), .lit (.int .u64 100000000000), .lit (.int .u64 1000000000000), .lit (.int .u64 10000000000000), .lit (.int .u64 100000000000000), .lit (.int .u64 1000000000000000), .lit (.int .u64 10000000000000000), .lit (.int .u64 100000000000000000), .lit (.int .u64 1000000000000000000), .lit (.int .u64 10000000000000000000)]
def laid_plugboard_pipes_halts {H : Type} : DataW H := .map [(.int .i64 11, .lit (.bool true)), (.int .i64 12, .lit (.bool true)), (.int .i64 13, .lit (.bool true))]

/-- 'plugboardlaw07.EndpointsNew': WHATEVER THE INPUT: true; the input reads as it did. -/
def endpointsNewSpec : ChangeSpec := { name := "endpointsNew", fn := fun _ => fun
  | [d1, d2] => { results := [.lit (.bool true)], args := [d1, d2] }
  | _ => none }
def endpointsNewRow : OpenClaim := { program := "ytngghkoghbpceaadoor", sum := "e0ef677e8c5e7a41f22888cdc4445177ce729770f4d88eae906bc9b9e7f9a1db", func := "plugboard/plugboardlaw07.EndpointsNew", spec := "endpointsNew", unfollowed := true, recurses := true, named := ["internal/strconv.uint64pow10", "math/bits.deBruijn32tab", "math/bits.deBruijn64tab"], plainKeys := false, apart := false, laid := [("math/bits.deBruijn32tab", laid_math_bits_deBruijn32tab), ("math/bits.deBruijn64tab", laid_math_bits_deBruijn64tab), ("internal/strconv.uint64pow10", laid_internal_strconv_uint64pow10)] }
def EndpointsNewSaid : Prop := endpointsNewRow.holds Tryd.pinned (OpenSpec.ofChange endpointsNewSpec)

/-- ITS FALSE NEIGHBOUR: 'it returns false'. Refute it at one input. -/
def endpointsNewWrong : ChangeSpec := { name := "endpointsNew", fn := fun _ => fun
  | [d1, d2] => { results := [.lit (.bool false)], args := [d1, d2] }
  | _ => none }
def EndpointsNewWrongFalsely : Prop := endpointsNewRow.holds Tryd.pinned (OpenSpec.ofChange endpointsNewWrong)

/-- 'plugboardlaw07.EndpointsWrite': WHATEVER THE INPUT: true; the input reads as it did. -/
def endpointsWriteSpec : ChangeSpec := { name := "endpointsWrite", fn := fun _ => fun
  | [d1, d2, d3] => { results := [.lit (.bool true)], args := [d1, d2, d3] }
  | _ => none }
def endpointsWriteRow : OpenClaim := { program := "ytngghkoghbpceaadoor", sum := "e0ef677e8c5e7a41f22888cdc4445177ce729770f4d88eae906bc9b9e7f9a1db", func := "plugboard/plugboardlaw07.EndpointsWrite", spec := "endpointsWrite", unfollowed := true, recurses := true, named := ["internal/strconv.uint64pow10", "math/bits.deBruijn32tab", "math/bits.deBruijn64tab"], plainKeys := false, apart := false, laid := [("math/bits.deBruijn32tab", laid_math_bits_deBruijn32tab), ("math/bits.deBruijn64tab", laid_math_bits_deBruijn64tab), ("internal/strconv.uint64pow10", laid_internal_strconv_uint64pow10)] }
def EndpointsWriteSaid : Prop := endpointsWriteRow.holds Tryd.pinned (OpenSpec.ofChange endpointsWriteSpec)

/-- ITS FALSE NEIGHBOUR: 'it returns false'. Refute it at one input. -/
def endpointsWriteWrong : ChangeSpec := { name := "endpointsWrite", fn := fun _ => fun
  | [d1, d2, d3] => { results := [.lit (.bool false)], args := [d1, d2, d3] }
  | _ => none }
def EndpointsWriteWrongFalsely : Prop := endpointsWriteRow.holds Tryd.pinned (OpenSpec.ofChange endpointsWriteWrong)

/-- 'plugboardlaw07.EndpointsRead': WHATEVER THE INPUT: true; the input reads as it did. -/
def endpointsReadSpec : ChangeSpec := { name := "endpointsRead", fn := fun _ => fun
  | [d1, d2, d3] => { results := [.lit (.bool true)], args := [d1, d2, d3] }
  | _ => none }
def endpointsReadRow : OpenClaim := { program := "ytngghkoghbpceaadoor", sum := "e0ef677e8c5e7a41f22888cdc4445177ce729770f4d88eae906bc9b9e7f9a1db", func := "plugboard/plugboardlaw07.EndpointsRead", spec := "endpointsRead", unfollowed := true, recurses := true, named := ["internal/strconv.uint64pow10", "math/bits.deBruijn32tab", "math/bits.deBruijn64tab"], plainKeys := false, apart := false, laid := [("math/bits.deBruijn32tab", laid_math_bits_deBruijn32tab), ("math/bits.deBruijn64tab", laid_math_bits_deBruijn64tab), ("internal/strconv.uint64pow10", laid_internal_strconv_uint64pow10)] }
def EndpointsReadSaid : Prop := endpointsReadRow.holds Tryd.pinned (OpenSpec.ofChange endpointsReadSpec)

/-- ITS FALSE NEIGHBOUR: 'it returns false'. Refute it at one input. -/
def endpointsReadWrong : ChangeSpec := { name := "endpointsRead", fn := fun _ => fun
  | [d1, d2, d3] => { results := [.lit (.bool false)], args := [d1, d2, d3] }
  | _ => none }
def EndpointsReadWrongFalsely : Prop := endpointsReadRow.holds Tryd.pinned (OpenSpec.ofChange endpointsReadWrong)

/-- 'plugboardlaw07.EndpointsIso': WHATEVER THE INPUT: true; the input reads as it did. -/
def endpointsIsoSpec : ChangeSpec := { name := "endpointsIso", fn := fun _ => fun
  | [d1, d2, d3] => { results := [.lit (.bool true)], args := [d1, d2, d3] }
  | _ => none }
def endpointsIsoRow : OpenClaim := { program := "ytngghkoghbpceaadoor", sum := "e0ef677e8c5e7a41f22888cdc4445177ce729770f4d88eae906bc9b9e7f9a1db", func := "plugboard/plugboardlaw07.EndpointsIso", spec := "endpointsIso", unfollowed := true, recurses := true, named := ["internal/strconv.uint64pow10", "math/bits.deBruijn32tab", "math/bits.deBruijn64tab"], plainKeys := false, apart := false, laid := [("math/bits.deBruijn32tab", laid_math_bits_deBruijn32tab), ("math/bits.deBruijn64tab", laid_math_bits_deBruijn64tab), ("internal/strconv.uint64pow10", laid_internal_strconv_uint64pow10)] }
def EndpointsIsoSaid : Prop := endpointsIsoRow.holds Tryd.pinned (OpenSpec.ofChange endpointsIsoSpec)

/-- ITS FALSE NEIGHBOUR: 'it returns false'. Refute it at one input. -/
def endpointsIsoWrong : ChangeSpec := { name := "endpointsIso", fn := fun _ => fun
  | [d1, d2, d3] => { results := [.lit (.bool false)], args := [d1, d2, d3] }
  | _ => none }
def EndpointsIsoWrongFalsely : Prop := endpointsIsoRow.holds Tryd.pinned (OpenSpec.ofChange endpointsIsoWrong)

/-- 'plugboardlaw07.EndpointsUse': WHATEVER THE INPUT: true; the input reads as it did. -/
def endpointsUseSpec : ChangeSpec := { name := "endpointsUse", fn := fun _ => fun
  | [d1, d2] => { results := [.lit (.bool true)], args := [d1, d2] }
  | _ => none }
def endpointsUseRow : OpenClaim := { program := "ytngghkoghbpceaadoor", sum := "e0ef677e8c5e7a41f22888cdc4445177ce729770f4d88eae906bc9b9e7f9a1db", func := "plugboard/plugboardlaw07.EndpointsUse", spec := "endpointsUse", unfollowed := true, recurses := true, named := ["internal/strconv.uint64pow10", "math/bits.deBruijn32tab", "math/bits.deBruijn64tab"], plainKeys := false, apart := false, laid := [("math/bits.deBruijn32tab", laid_math_bits_deBruijn32tab), ("math/bits.deBruijn64tab", laid_math_bits_deBruijn64tab), ("internal/strconv.uint64pow10", laid_internal_strconv_uint64pow10)] }
def EndpointsUseSaid : Prop := endpointsUseRow.holds Tryd.pinned (OpenSpec.ofChange endpointsUseSpec)

/-- ITS FALSE NEIGHBOUR: 'it returns false'. Refute it at one input. -/
def endpointsUseWrong : ChangeSpec := { name := "endpointsUse", fn := fun _ => fun
  | [d1, d2] => { results := [.lit (.bool false)], args := [d1, d2] }
  | _ => none }
def EndpointsUseWrongFalsely : Prop := endpointsUseRow.holds Tryd.pinned (OpenSpec.ofChange endpointsUseWrong)

/-- 'plugboardlaw07.EndpointsScript': WHATEVER THE INPUT: true; the input reads as it did. -/
def endpointsScriptSpec : ChangeSpec := { name := "endpointsScript", fn := fun _ => fun
  | [d] => { results := [.lit (.bool true)], args := [d] }
  | _ => none }
def endpointsScriptRow : OpenClaim := { program := "ytngghkoghbpceaadoor", sum := "e0ef677e8c5e7a41f22888cdc4445177ce729770f4d88eae906bc9b9e7f9a1db", func := "plugboard/plugboardlaw07.EndpointsScript", spec := "endpointsScript", unfollowed := true, recurses := true, named := ["internal/strconv.uint64pow10", "math/bits.deBruijn32tab", "math/bits.deBruijn64tab"], plainKeys := false, apart := false, laid := [("math/bits.deBruijn32tab", laid_math_bits_deBruijn32tab), ("math/bits.deBruijn64tab", laid_math_bits_deBruijn64tab), ("internal/strconv.uint64pow10", laid_internal_strconv_uint64pow10)] }
def EndpointsScriptSaid : Prop := endpointsScriptRow.holds Tryd.pinned (OpenSpec.ofChange endpointsScriptSpec)

/-- ITS FALSE NEIGHBOUR: 'it returns false'. Refute it at one input. -/
def endpointsScriptWrong : ChangeSpec := { name := "endpointsScript", fn := fun _ => fun
  | [d] => { results := [.lit (.bool false)], args := [d] }
  | _ => none }
def EndpointsScriptWrongFalsely : Prop := endpointsScriptRow.holds Tryd.pinned (OpenSpec.ofChange endpointsScriptWrong)

/-- 'plugboardlaw27.UrbsErrors': WHATEVER THE INPUT: true; the input reads as it did. -/
def urbsErrorsSpec : ChangeSpec := { name := "urbsErrors", fn := fun _ => fun
  | [d1, d2, d3] => { results := [.lit (.bool true)], args := [d1, d2, d3] }
  | _ => none }
def urbsErrorsRow : OpenClaim := { program := "ytngghkoghbpceaadoor", sum := "e0ef677e8c5e7a41f22888cdc4445177ce729770f4d88eae906bc9b9e7f9a1db", func := "plugboard/plugboardlaw27.UrbsErrors", spec := "urbsErrors", unfollowed := true, recurses := true, named := ["plugboard/pipes.halts"], plainKeys := false, apart := false, laid := [("plugboard/pipes.halts", laid_plugboard_pipes_halts)] }
def UrbsErrorsSaid : Prop := urbsErrorsRow.holds Tryd.pinned (OpenSpec.ofChange urbsErrorsSpec)

/-- ITS FALSE NEIGHBOUR: 'it returns false'. Refute it at one input. -/
def urbsErrorsWrong : ChangeSpec := { name := "urbsErrors", fn := fun _ => fun
  | [d1, d2, d3] => { results := [.lit (.bool false)], args := [d1, d2, d3] }
  | _ => none }
def UrbsErrorsWrongFalsely : Prop := urbsErrorsRow.holds Tryd.pinned (OpenSpec.ofChange urbsErrorsWrong)

/-- 'plugboardlaw27.UrbsHalt': WHATEVER THE INPUT: true; the input reads as it did. -/
def urbsHaltSpec : ChangeSpec := { name := "urbsHalt", fn := fun _ => fun
  | [d1, d2, d3] => { results := [.lit (.bool true)], args := [d1, d2, d3] }
  | _ => none }
def urbsHaltRow : OpenClaim := { program := "ytngghkoghbpceaadoor", sum := "e0ef677e8c5e7a41f22888cdc4445177ce729770f4d88eae906bc9b9e7f9a1db", func := "plugboard/plugboardlaw27.UrbsHalt", spec := "urbsHalt", unfollowed := true, recurses := true, named := ["plugboard/pipes.halts"], plainKeys := false, apart := false, laid := [("plugboard/pipes.halts", laid_plugboard_pipes_halts)] }
def UrbsHaltSaid : Prop := urbsHaltRow.holds Tryd.pinned (OpenSpec.ofChange urbsHaltSpec)

/-- ITS FALSE NEIGHBOUR: 'it returns false'. Refute it at one input. -/
def urbsHaltWrong : ChangeSpec := { name := "urbsHalt", fn := fun _ => fun
  | [d1, d2, d3] => { results := [.lit (.bool false)], args := [d1, d2, d3] }
  | _ => none }
def UrbsHaltWrongFalsely : Prop := urbsHaltRow.holds Tryd.pinned (OpenSpec.ofChange urbsHaltWrong)

/- THE SECOND FORM. 'bulk': how many values and letters a reading holds, each counted each time it is reached (what is shared counts as often as it is met; a slice's spare places count too). A statement '..UptoSaid' is the law's where the arguments, and the package variables that the reading takes, are together of bulk at most 1048576: NARROWER than '..Said'. Prove '..Said' where nothing that the law and all that it calls make is longer than what came in: it says more and counts as full. Else prove '..UptoSaid'. A law counts once. -/
mutual
def uptoBulk {H : Type} : DataW H → Nat
  | .lit (.string bytes) => bytes.length + 1
  | .lit _ => 1
  | .nil => 1
  | .ptr d => uptoBulk d + 1
  | .slice elems spare => uptoBulkAll elems + uptoBulkAll spare + 1
  | .agg parts => uptoBulkAll parts + 1
  | .iface _ d => uptoBulk d + 1
  | .map entries => uptoBulkEntries entries + 1
  | .held _ => 1
def uptoBulkAll {H : Type} : List (DataW H) → Nat
  | [] => 0
  | d :: r => uptoBulk d + uptoBulkAll r
def uptoBulkEntries {H : Type} : List (Lit × DataW H) → Nat
  | [] => 0
  | x :: r => uptoBulkEntry x + uptoBulkEntries r
def uptoBulkEntry {H : Type} : Lit × DataW H → Nat
  | (.string bytes, d) => bytes.length + uptoBulk d + 1
  | (_, d) => uptoBulk d + 1
 end
def uptoSmall : (H : Type) → List (DataW H) → Bool := fun _ ds => decide (uptoBulkAll ds ≤ 1048576)
def OpenSpec.upto (s : _root_.Go.ChangeSpec) : _root_.Go.OpenSpec := { _root_.Go.OpenSpec.ofChange s with cond := some uptoSmall }

/-- 'plugboardlaw07.EndpointsNew', WHERE WHAT IT READS IS OF BULK AT MOST 1048576: true; the input reads as it did. -/
def endpointsNewUptoRow : OpenClaim := { program := "ytngghkoghbpceaadoor", sum := "e0ef677e8c5e7a41f22888cdc4445177ce729770f4d88eae906bc9b9e7f9a1db", func := "plugboard/plugboardlaw07.EndpointsNew", spec := "endpointsNew", unfollowed := true, recurses := true, named := ["internal/strconv.uint64pow10", "math/bits.deBruijn32tab", "math/bits.deBruijn64tab"], plainKeys := false, apart := false, laid := [("math/bits.deBruijn32tab", laid_math_bits_deBruijn32tab), ("math/bits.deBruijn64tab", laid_math_bits_deBruijn64tab), ("internal/strconv.uint64pow10", laid_internal_strconv_uint64pow10)], narrowed := true }
def EndpointsNewUptoSaid : Prop := endpointsNewUptoRow.holds Tryd.pinned (OpenSpec.upto endpointsNewSpec)

/-- 'plugboardlaw07.EndpointsWrite', WHERE WHAT IT READS IS OF BULK AT MOST 1048576: true; the input reads as it did. -/
def endpointsWriteUptoRow : OpenClaim := { program := "ytngghkoghbpceaadoor", sum := "e0ef677e8c5e7a41f22888cdc4445177ce729770f4d88eae906bc9b9e7f9a1db", func := "plugboard/plugboardlaw07.EndpointsWrite", spec := "endpointsWrite", unfollowed := true, recurses := true, named := ["internal/strconv.uint64pow10", "math/bits.deBruijn32tab", "math/bits.deBruijn64tab"], plainKeys := false, apart := false, laid := [("math/bits.deBruijn32tab", laid_math_bits_deBruijn32tab), ("math/bits.deBruijn64tab", laid_math_bits_deBruijn64tab), ("internal/strconv.uint64pow10", laid_internal_strconv_uint64pow10)], narrowed := true }
def EndpointsWriteUptoSaid : Prop := endpointsWriteUptoRow.holds Tryd.pinned (OpenSpec.upto endpointsWriteSpec)

/-- 'plugboardlaw07.EndpointsRead', WHERE WHAT IT READS IS OF BULK AT MOST 1048576: true; the input reads as it did. -/
def endpointsReadUptoRow : OpenClaim := { program := "ytngghkoghbpceaadoor", sum := "e0ef677e8c5e7a41f22888cdc4445177ce729770f4d88eae906bc9b9e7f9a1db", func := "plugboard/plugboardlaw07.EndpointsRead", spec := "endpointsRead", unfollowed := true, recurses := true, named := ["internal/strconv.uint64pow10", "math/bits.deBruijn32tab", "math/bits.deBruijn64tab"], plainKeys := false, apart := false, laid := [("math/bits.deBruijn32tab", laid_math_bits_deBruijn32tab), ("math/bits.deBruijn64tab", laid_math_bits_deBruijn64tab), ("internal/strconv.uint64pow10", laid_internal_strconv_uint64pow10)], narrowed := true }
def EndpointsReadUptoSaid : Prop := endpointsReadUptoRow.holds Tryd.pinned (OpenSpec.upto endpointsReadSpec)

/-- 'plugboardlaw07.EndpointsIso', WHERE WHAT IT READS IS OF BULK AT MOST 1048576: true; the input reads as it did. -/
def endpointsIsoUptoRow : OpenClaim := { program := "ytngghkoghbpceaadoor", sum := "e0ef677e8c5e7a41f22888cdc4445177ce729770f4d88eae906bc9b9e7f9a1db", func := "plugboard/plugboardlaw07.EndpointsIso", spec := "endpointsIso", unfollowed := true, recurses := true, named := ["internal/strconv.uint64pow10", "math/bits.deBruijn32tab", "math/bits.deBruijn64tab"], plainKeys := false, apart := false, laid := [("math/bits.deBruijn32tab", laid_math_bits_deBruijn32tab), ("math/bits.deBruijn64tab", laid_math_bits_deBruijn64tab), ("internal/strconv.uint64pow10", laid_internal_strconv_uint64pow10)], narrowed := true }
def EndpointsIsoUptoSaid : Prop := endpointsIsoUptoRow.holds Tryd.pinned (OpenSpec.upto endpointsIsoSpec)

/-- 'plugboardlaw07.EndpointsUse', WHERE WHAT IT READS IS OF BULK AT MOST 1048576: true; the input reads as it did. -/
def endpointsUseUptoRow : OpenClaim := { program := "ytngghkoghbpceaadoor", sum := "e0ef677e8c5e7a41f22888cdc4445177ce729770f4d88eae906bc9b9e7f9a1db", func := "plugboard/plugboardlaw07.EndpointsUse", spec := "endpointsUse", unfollowed := true, recurses := true, named := ["internal/strconv.uint64pow10", "math/bits.deBruijn32tab", "math/bits.deBruijn64tab"], plainKeys := false, apart := false, laid := [("math/bits.deBruijn32tab", laid_math_bits_deBruijn32tab), ("math/bits.deBruijn64tab", laid_math_bits_deBruijn64tab), ("internal/strconv.uint64pow10", laid_internal_strconv_uint64pow10)], narrowed := true }
def EndpointsUseUptoSaid : Prop := endpointsUseUptoRow.holds Tryd.pinned (OpenSpec.upto endpointsUseSpec)

/-- 'plugboardlaw07.EndpointsScript', WHERE WHAT IT READS IS OF BULK AT MOST 1048576: true; the input reads as it did. -/
def endpointsScriptUptoRow : OpenClaim := { program := "ytngghkoghbpceaadoor", sum := "e0ef677e8c5e7a41f22888cdc4445177ce729770f4d88eae906bc9b9e7f9a1db", func := "plugboard/plugboardlaw07.EndpointsScript", spec := "endpointsScript", unfollowed := true, recurses := true, named := ["internal/strconv.uint64pow10", "math/bits.deBruijn32tab", "math/bits.deBruijn64tab"], plainKeys := false, apart := false, laid := [("math/bits.deBruijn32tab", laid_math_bits_deBruijn32tab), ("math/bits.deBruijn64tab", laid_math_bits_deBruijn64tab), ("internal/strconv.uint64pow10", laid_internal_strconv_uint64pow10)], narrowed := true }
def EndpointsScriptUptoSaid : Prop := endpointsScriptUptoRow.holds Tryd.pinned (OpenSpec.upto endpointsScriptSpec)

/-- 'plugboardlaw27.UrbsErrors', WHERE WHAT IT READS IS OF BULK AT MOST 1048576: true; the input reads as it did. -/
def urbsErrorsUptoRow : OpenClaim := { program := "ytngghkoghbpceaadoor", sum := "e0ef677e8c5e7a41f22888cdc4445177ce729770f4d88eae906bc9b9e7f9a1db", func := "plugboard/plugboardlaw27.UrbsErrors", spec := "urbsErrors", unfollowed := true, recurses := true, named := ["plugboard/pipes.halts"], plainKeys := false, apart := false, laid := [("plugboard/pipes.halts", laid_plugboard_pipes_halts)], narrowed := true }
def UrbsErrorsUptoSaid : Prop := urbsErrorsUptoRow.holds Tryd.pinned (OpenSpec.upto urbsErrorsSpec)

/-- 'plugboardlaw27.UrbsHalt', WHERE WHAT IT READS IS OF BULK AT MOST 1048576: true; the input reads as it did. -/
def urbsHaltUptoRow : OpenClaim := { program := "ytngghkoghbpceaadoor", sum := "e0ef677e8c5e7a41f22888cdc4445177ce729770f4d88eae906bc9b9e7f9a1db", func := "plugboard/plugboardlaw27.UrbsHalt", spec := "urbsHalt", unfollowed := true, recurses := true, named := ["plugboard/pipes.halts"], plainKeys := false, apart := false, laid := [("plugboard/pipes.halts", laid_plugboard_pipes_halts)], narrowed := true }
def UrbsHaltUptoSaid : Prop := urbsHaltUptoRow.holds Tryd.pinned (OpenSpec.upto urbsHaltSpec)

end Rows
end Go.Proofs.YtngghkoghbpceaaDoor
