/-
  DERIVED. GIVEN WITH THE SEED: THE CARDS: each row of YtngghkoghbpceaaDoorRows.lean that lists a variable, with what it lists TIED to the program's text (the seventh form; the later family's looks); each row that meets fmt, with fmt's text TOLD by the authors' own Lean function (tested against real Go, not proved from fmt's source: count such statements apart). THE CARD IS WHAT COUNTS. Prove the row's statement (the work); the ties are given (YtngghkoghbpceaaDoorTie.lean); close each card by the builder's one call (the guide's Derived/Test/ToyasCard.lean, 'card_holds'). Laid BY PROGRAM, IN A SANDBOX (cutbox-door.mjs). By AI agents, Wed Nov 11 2026. No macro, syntax, notation, axiom, sorry.
-/
import Derived.Test.YtngghkoghbpceaaDoorRows
import GoSem.ClaimSeven
namespace Go.Proofs.YtngghkoghbpceaaDoor
namespace Rows

/-- THE TIED CARD OF 'plugboardlaw07.EndpointsNew'. -/
def endpointsNewCard : Claim7 := { stood := { row := endpointsNewRow, standIns := [], harness := (true, "cd93d2762d05d0720f0e129cbac423787a5b70e5cef2aafeab3fc3b75094b52e"), looks := false }, kinds := [], alts := [], laidByText := true, laidKinds := [.data, .data, .data], laidTests := true, laidLooks := .later }
def EndpointsNewCardSaid : Prop := Claim7.holds Tryd.pinned (.plain (OpenSpec.ofChange endpointsNewSpec)) endpointsNewCard

/-- THE TIED CARD OF 'plugboardlaw07.EndpointsWrite'. -/
def endpointsWriteCard : Claim7 := { stood := { row := endpointsWriteRow, standIns := [], harness := (true, "cd93d2762d05d0720f0e129cbac423787a5b70e5cef2aafeab3fc3b75094b52e"), looks := false }, kinds := [], alts := [], laidByText := true, laidKinds := [.data, .data, .data], laidTests := true, laidLooks := .later }
def EndpointsWriteCardSaid : Prop := Claim7.holds Tryd.pinned (.plain (OpenSpec.ofChange endpointsWriteSpec)) endpointsWriteCard

/-- THE TIED CARD OF 'plugboardlaw07.EndpointsRead'. -/
def endpointsReadCard : Claim7 := { stood := { row := endpointsReadRow, standIns := [], harness := (true, "cd93d2762d05d0720f0e129cbac423787a5b70e5cef2aafeab3fc3b75094b52e"), looks := false }, kinds := [], alts := [], laidByText := true, laidKinds := [.data, .data, .data], laidTests := true, laidLooks := .later }
def EndpointsReadCardSaid : Prop := Claim7.holds Tryd.pinned (.plain (OpenSpec.ofChange endpointsReadSpec)) endpointsReadCard

/-- THE TIED CARD OF 'plugboardlaw07.EndpointsIso'. -/
def endpointsIsoCard : Claim7 := { stood := { row := endpointsIsoRow, standIns := [], harness := (true, "cd93d2762d05d0720f0e129cbac423787a5b70e5cef2aafeab3fc3b75094b52e"), looks := false }, kinds := [], alts := [], laidByText := true, laidKinds := [.data, .data, .data], laidTests := true, laidLooks := .later }
def EndpointsIsoCardSaid : Prop := Claim7.holds Tryd.pinned (.plain (OpenSpec.ofChange endpointsIsoSpec)) endpointsIsoCard

/-- THE TIED CARD OF 'plugboardlaw07.EndpointsUse'. -/
def endpointsUseCard : Claim7 := { stood := { row := endpointsUseRow, standIns := [], harness := (true, "cd93d2762d05d0720f0e129cbac423787a5b70e5cef2aafeab3fc3b75094b52e"), looks := false }, kinds := [], alts := [], laidByText := true, laidKinds := [.data, .data, .data], laidTests := true, laidLooks := .later }
def EndpointsUseCardSaid : Prop := Claim7.holds Tryd.pinned (.plain (OpenSpec.ofChange endpointsUseSpec)) endpointsUseCard

/-- THE TIED CARD OF 'plugboardlaw07.EndpointsScript'. -/
def endpointsScriptCard : Claim7 := { stood := { row := endpointsScriptRow, standIns := [], harness := (true, "cd93d2762d05d0720f0e129cbac423787a5b70e5cef2aafeab3fc3b75094b52e"), looks := false }, kinds := [], alts := [], laidByText := true, laidKinds := [.data, .data, .data], laidTests := true, laidLooks := .later }
def EndpointsScriptCardSaid : Prop := Claim7.holds Tryd.pinned (.plain (OpenSpec.ofChange endpointsScriptSpec)) endpointsScriptCard

/-- THE TIED CARD OF 'plugboardlaw27.UrbsErrors'. -/
def urbsErrorsCard : Claim7 := { stood := { row := urbsErrorsRow, standIns := [], harness := (true, "cd93d2762d05d0720f0e129cbac423787a5b70e5cef2aafeab3fc3b75094b52e"), looks := false }, kinds := [], alts := [], laidByText := true, laidKinds := [.mapped], laidTests := true, laidLooks := .later }
def UrbsErrorsCardSaid : Prop := Claim7.holds Tryd.pinned (.plain (OpenSpec.ofChange urbsErrorsSpec)) urbsErrorsCard

/-- THE TIED CARD OF 'plugboardlaw27.UrbsHalt'. -/
def urbsHaltCard : Claim7 := { stood := { row := urbsHaltRow, standIns := [], harness := (true, "cd93d2762d05d0720f0e129cbac423787a5b70e5cef2aafeab3fc3b75094b52e"), looks := false }, kinds := [], alts := [], laidByText := true, laidKinds := [.mapped], laidTests := true, laidLooks := .later }
def UrbsHaltCardSaid : Prop := Claim7.holds Tryd.pinned (.plain (OpenSpec.ofChange urbsHaltSpec)) urbsHaltCard

/-- THE SECOND FORM's CARD OF 'plugboardlaw07.EndpointsNew'. -/
def endpointsNewUptoCard : Claim7 := { stood := { row := endpointsNewUptoRow, standIns := [], harness := (true, "cd93d2762d05d0720f0e129cbac423787a5b70e5cef2aafeab3fc3b75094b52e"), looks := false }, kinds := [], alts := [], laidByText := true, laidKinds := [.data, .data, .data], laidTests := true, laidLooks := .later }
def EndpointsNewUptoCardSaid : Prop := Claim7.holds Tryd.pinned (.plain (OpenSpec.upto endpointsNewSpec)) endpointsNewUptoCard

/-- THE SECOND FORM's CARD OF 'plugboardlaw07.EndpointsWrite'. -/
def endpointsWriteUptoCard : Claim7 := { stood := { row := endpointsWriteUptoRow, standIns := [], harness := (true, "cd93d2762d05d0720f0e129cbac423787a5b70e5cef2aafeab3fc3b75094b52e"), looks := false }, kinds := [], alts := [], laidByText := true, laidKinds := [.data, .data, .data], laidTests := true, laidLooks := .later }
def EndpointsWriteUptoCardSaid : Prop := Claim7.holds Tryd.pinned (.plain (OpenSpec.upto endpointsWriteSpec)) endpointsWriteUptoCard

/-- THE SECOND FORM's CARD OF 'plugboardlaw07.EndpointsRead'. -/
def endpointsReadUptoCard : Claim7 := { stood := { row := endpointsReadUptoRow, standIns := [], harness := (true, "cd93d2762d05d0720f0e129cbac423787a5b70e5cef2aafeab3fc3b75094b52e"), looks := false }, kinds := [], alts := [], laidByText := true, laidKinds := [.data, .data, .data], laidTests := true, laidLooks := .later }
def EndpointsReadUptoCardSaid : Prop := Claim7.holds Tryd.pinned (.plain (OpenSpec.upto endpointsReadSpec)) endpointsReadUptoCard

/-- THE SECOND FORM's CARD OF 'plugboardlaw07.EndpointsIso'. -/
def endpointsIsoUptoCard : Claim7 := { stood := { row := endpointsIsoUptoRow, standIns := [], harness := (true, "cd93d2762d05d0720f0e129cbac423787a5b70e5cef2aafeab3fc3b75094b52e"), looks := false }, kinds := [], alts := [], laidByText := true, laidKinds := [.data, .data, .data], laidTests := true, laidLooks := .later }
def EndpointsIsoUptoCardSaid : Prop := Claim7.holds Tryd.pinned (.plain (OpenSpec.upto endpointsIsoSpec)) endpointsIsoUptoCard

/-- THE SECOND FORM's CARD OF 'plugboardlaw07.EndpointsUse'. -/
def endpointsUseUptoCard : Claim7 := { stood := { row := endpointsUseUptoRow, standIns := [], harness := (true, "cd93d2762d05d0720f0e129cbac423787a5b70e5cef2aafeab3fc3b75094b52e"), looks := false }, kinds := [], alts := [], laidByText := true, laidKinds := [.data, .data, .data], laidTests := true, laidLooks := .later }
def EndpointsUseUptoCardSaid : Prop := Claim7.holds Tryd.pinned (.plain (OpenSpec.upto endpointsUseSpec)) endpointsUseUptoCard

/-- THE SECOND FORM's CARD OF 'plugboardlaw07.EndpointsScript'. -/
def endpointsScriptUptoCard : Claim7 := { stood := { row := endpointsScriptUptoRow, standIns := [], harness := (true, "cd93d2762d05d0720f0e129cbac423787a5b70e5cef2aafeab3fc3b75094b52e"), looks := false }, kinds := [], alts := [], laidByText := true, laidKinds := [.data, .data, .data], laidTests := true, laidLooks := .later }
def EndpointsScriptUptoCardSaid : Prop := Claim7.holds Tryd.pinned (.plain (OpenSpec.upto endpointsScriptSpec)) endpointsScriptUptoCard

/-- THE SECOND FORM's CARD OF 'plugboardlaw27.UrbsErrors'. -/
def urbsErrorsUptoCard : Claim7 := { stood := { row := urbsErrorsUptoRow, standIns := [], harness := (true, "cd93d2762d05d0720f0e129cbac423787a5b70e5cef2aafeab3fc3b75094b52e"), looks := false }, kinds := [], alts := [], laidByText := true, laidKinds := [.mapped], laidTests := true, laidLooks := .later }
def UrbsErrorsUptoCardSaid : Prop := Claim7.holds Tryd.pinned (.plain (OpenSpec.upto urbsErrorsSpec)) urbsErrorsUptoCard

/-- THE SECOND FORM's CARD OF 'plugboardlaw27.UrbsHalt'. -/
def urbsHaltUptoCard : Claim7 := { stood := { row := urbsHaltUptoRow, standIns := [], harness := (true, "cd93d2762d05d0720f0e129cbac423787a5b70e5cef2aafeab3fc3b75094b52e"), looks := false }, kinds := [], alts := [], laidByText := true, laidKinds := [.mapped], laidTests := true, laidLooks := .later }
def UrbsHaltUptoCardSaid : Prop := Claim7.holds Tryd.pinned (.plain (OpenSpec.upto urbsHaltSpec)) urbsHaltUptoCard
end Rows
end Go.Proofs.YtngghkoghbpceaaDoor
