/-
  DERIVED. GIVEN WITH THE SEED: THE CARDS: each row of YtdigcibkfnolnaaDoorRows.lean that lists a variable, with what it lists TIED to the program's text (the seventh form; the later family's looks); each row that meets fmt, with fmt's text TOLD by the authors' own Lean function (tested against real Go, not proved from fmt's source: count such statements apart). THE CARD IS WHAT COUNTS. Prove the row's statement (the work); the ties are given (YtdigcibkfnolnaaDoorTie.lean); close each card by the builder's one call (the guide's Derived/Test/ToyasCard.lean, 'card_holds'). Laid BY PROGRAM, IN A SANDBOX (cutbox-door.mjs). By AI agents, Wed Nov 11 2026. No macro, syntax, notation, axiom, sorry.
-/
import Derived.Test.YtdigcibkfnolnaaDoorRows
import GoSem.ClaimSeven
namespace Go.Proofs.YtdigcibkfnolnaaDoor
namespace Rows

/-- THE TIED CARD OF 'plugboardlaw11.FramesNumbers'. -/
def framesNumbersCard : Claim7 := { stood := { row := framesNumbersRow, standIns := [], harness := (true, "f1942306a7dfbf50ca618414f85178a8b1fecf194d73ce2e038663da92939c79"), looks := false }, kinds := [], alts := [], laidByText := true, laidKinds := [.data, .data, .data], laidTests := true, laidLooks := .later }
def FramesNumbersCardSaid : Prop := Claim7.holds Tryd.pinned (.plain (OpenSpec.ofChange framesNumbersSpec)) framesNumbersCard

/-- THE TIED CARD OF 'plugboardlaw11.FramesNew'. -/
def framesNewCard : Claim7 := { stood := { row := framesNewRow, standIns := [], harness := (true, "f1942306a7dfbf50ca618414f85178a8b1fecf194d73ce2e038663da92939c79"), looks := false }, kinds := [], alts := [], laidByText := true, laidKinds := [.data, .data, .data], laidTests := true, laidLooks := .later }
def FramesNewCardSaid : Prop := Claim7.holds Tryd.pinned (.plain (OpenSpec.ofChange framesNewSpec)) framesNewCard

/-- THE SECOND FORM's CARD OF 'plugboardlaw11.FramesNumbers'. -/
def framesNumbersUptoCard : Claim7 := { stood := { row := framesNumbersUptoRow, standIns := [], harness := (true, "f1942306a7dfbf50ca618414f85178a8b1fecf194d73ce2e038663da92939c79"), looks := false }, kinds := [], alts := [], laidByText := true, laidKinds := [.data, .data, .data], laidTests := true, laidLooks := .later }
def FramesNumbersUptoCardSaid : Prop := Claim7.holds Tryd.pinned (.plain (OpenSpec.upto framesNumbersSpec)) framesNumbersUptoCard

/-- THE SECOND FORM's CARD OF 'plugboardlaw11.FramesNew'. -/
def framesNewUptoCard : Claim7 := { stood := { row := framesNewUptoRow, standIns := [], harness := (true, "f1942306a7dfbf50ca618414f85178a8b1fecf194d73ce2e038663da92939c79"), looks := false }, kinds := [], alts := [], laidByText := true, laidKinds := [.data, .data, .data], laidTests := true, laidLooks := .later }
def FramesNewUptoCardSaid : Prop := Claim7.holds Tryd.pinned (.plain (OpenSpec.upto framesNewSpec)) framesNewUptoCard
end Rows
end Go.Proofs.YtdigcibkfnolnaaDoor
