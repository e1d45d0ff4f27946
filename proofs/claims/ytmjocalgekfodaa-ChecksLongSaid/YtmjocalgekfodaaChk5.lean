/-
  The contracts of the reference of plugboardlaw02: what is sent behind bits; Five and Sixteen.
-/
import Derived.Test.YtmjocalgekfodaaChk4
namespace Go.Proofs.Ytmjocalgekfodaa
open Go.RowKit
set_option linter.unusedVariables false


def Bytes8 (w : World) (l : List Nat) (e : Ending) (w' : World) : Prop := ∃ a c, e = .returned (.slice a l.length c) ∧ w'.ownsRow w.heap.size 5 1 (.slice a l.length c) l.length (n8 l) ∧ Below w.heap.size w w'


def int8s (l : List Nat) : Prop := ∀ x ∈ l, x < 256

end Go.Proofs.Ytmjocalgekfodaa

