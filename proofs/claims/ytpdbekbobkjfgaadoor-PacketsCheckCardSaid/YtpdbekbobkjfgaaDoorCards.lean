/-
  DERIVED. GIVEN WITH THE SEED: THE CARDS: each row of YtpdbekbobkjfgaaDoorRows.lean that lists a variable, with what it lists TIED to the program's text (the seventh form; the later family's looks); each row that meets fmt, with fmt's text TOLD by the authors' own Lean function (tested against real Go, not proved from fmt's source: count such statements apart). THE CARD IS WHAT COUNTS. Prove the row's statement (the work); the ties are given (YtpdbekbobkjfgaaDoorTie.lean); close each card by the builder's one call (the guide's Derived/Test/ToyasCard.lean, 'card_holds'). Laid BY PROGRAM, IN A SANDBOX (cutbox-door.mjs). By AI agents, Wed Nov 11 2026. No macro, syntax, notation, axiom, sorry.
-/
import Derived.Test.YtpdbekbobkjfgaaDoorRows
import GoSem.ClaimSeven
namespace Go.Proofs.YtpdbekbobkjfgaaDoor
namespace Rows

/-- THE TIED CARD OF 'plugboardlaw03.PacketsCheck'. -/
def packetsCheckCard : Claim7 := { stood := { row := packetsCheckRow, standIns := [], harness := (true, "41b4ec7895ee6e0b0020ee7add012edd42c69675211f8d7e0e49294b61ea020e"), looks := false }, kinds := [], alts := [], laidByText := true, laidKinds := [.data, .data, .data], laidTests := true, laidLooks := .later }
def PacketsCheckCardSaid : Prop := Claim7.holds Tryd.pinned (.plain (OpenSpec.ofChange packetsCheckSpec)) packetsCheckCard

/-- THE TIED CARD OF 'plugboardlaw03.PacketsBack'. -/
def packetsBackCard : Claim7 := { stood := { row := packetsBackRow, standIns := [], harness := (true, "41b4ec7895ee6e0b0020ee7add012edd42c69675211f8d7e0e49294b61ea020e"), looks := false }, kinds := [], alts := [], laidByText := true, laidKinds := [.data, .data, .data], laidTests := true, laidLooks := .later }
def PacketsBackCardSaid : Prop := Claim7.holds Tryd.pinned (.plain (OpenSpec.ofChange packetsBackSpec)) packetsBackCard

/-- THE TIED CARD OF 'plugboardlaw03.PacketsDecode'. -/
def packetsDecodeCard : Claim7 := { stood := { row := packetsDecodeRow, standIns := [], harness := (true, "41b4ec7895ee6e0b0020ee7add012edd42c69675211f8d7e0e49294b61ea020e"), looks := false }, kinds := [], alts := [], laidByText := true, laidKinds := [.data, .data, .data], laidTests := true, laidLooks := .later }
def PacketsDecodeCardSaid : Prop := Claim7.holds Tryd.pinned (.plain (OpenSpec.ofChange packetsDecodeSpec)) packetsDecodeCard

/-- THE TIED CARD OF 'plugboardlaw03.PacketsSame'. -/
def packetsSameCard : Claim7 := { stood := { row := packetsSameRow, standIns := [], harness := (true, "41b4ec7895ee6e0b0020ee7add012edd42c69675211f8d7e0e49294b61ea020e"), looks := false }, kinds := [], alts := [], laidByText := true, laidKinds := [.data, .data, .data], laidTests := true, laidLooks := .later }
def PacketsSameCardSaid : Prop := Claim7.holds Tryd.pinned (.plain (OpenSpec.ofChange packetsSameSpec)) packetsSameCard

/-- THE TIED CARD OF 'plugboardlaw03.PacketsText'. -/
def packetsTextCard : Claim7 := { stood := { row := packetsTextRow, standIns := [], harness := (true, "41b4ec7895ee6e0b0020ee7add012edd42c69675211f8d7e0e49294b61ea020e"), looks := false }, kinds := [], alts := [], laidByText := true, laidKinds := [.data, .data, .data], laidTests := true, laidLooks := .later }
def PacketsTextCardSaid : Prop := Claim7.holds Tryd.pinned (.plain (OpenSpec.ofChange packetsTextSpec)) packetsTextCard

/-- THE TIED CARD OF 'plugboardlaw03.PacketsSpoiled'. -/
def packetsSpoiledCard : Claim7 := { stood := { row := packetsSpoiledRow, standIns := [], harness := (true, "41b4ec7895ee6e0b0020ee7add012edd42c69675211f8d7e0e49294b61ea020e"), looks := false }, kinds := [], alts := [], laidByText := true, laidKinds := [.data, .data, .data], laidTests := true, laidLooks := .later }
def PacketsSpoiledCardSaid : Prop := Claim7.holds Tryd.pinned (.plain (OpenSpec.ofChange packetsSpoiledSpec)) packetsSpoiledCard

/-- THE SECOND FORM's CARD OF 'plugboardlaw03.PacketsCheck'. -/
def packetsCheckUptoCard : Claim7 := { stood := { row := packetsCheckUptoRow, standIns := [], harness := (true, "41b4ec7895ee6e0b0020ee7add012edd42c69675211f8d7e0e49294b61ea020e"), looks := false }, kinds := [], alts := [], laidByText := true, laidKinds := [.data, .data, .data], laidTests := true, laidLooks := .later }
def PacketsCheckUptoCardSaid : Prop := Claim7.holds Tryd.pinned (.plain (OpenSpec.upto packetsCheckSpec)) packetsCheckUptoCard

/-- THE SECOND FORM's CARD OF 'plugboardlaw03.PacketsBack'. -/
def packetsBackUptoCard : Claim7 := { stood := { row := packetsBackUptoRow, standIns := [], harness := (true, "41b4ec7895ee6e0b0020ee7add012edd42c69675211f8d7e0e49294b61ea020e"), looks := false }, kinds := [], alts := [], laidByText := true, laidKinds := [.data, .data, .data], laidTests := true, laidLooks := .later }
def PacketsBackUptoCardSaid : Prop := Claim7.holds Tryd.pinned (.plain (OpenSpec.upto packetsBackSpec)) packetsBackUptoCard

/-- THE SECOND FORM's CARD OF 'plugboardlaw03.PacketsDecode'. -/
def packetsDecodeUptoCard : Claim7 := { stood := { row := packetsDecodeUptoRow, standIns := [], harness := (true, "41b4ec7895ee6e0b0020ee7add012edd42c69675211f8d7e0e49294b61ea020e"), looks := false }, kinds := [], alts := [], laidByText := true, laidKinds := [.data, .data, .data], laidTests := true, laidLooks := .later }
def PacketsDecodeUptoCardSaid : Prop := Claim7.holds Tryd.pinned (.plain (OpenSpec.upto packetsDecodeSpec)) packetsDecodeUptoCard

/-- THE SECOND FORM's CARD OF 'plugboardlaw03.PacketsSame'. -/
def packetsSameUptoCard : Claim7 := { stood := { row := packetsSameUptoRow, standIns := [], harness := (true, "41b4ec7895ee6e0b0020ee7add012edd42c69675211f8d7e0e49294b61ea020e"), looks := false }, kinds := [], alts := [], laidByText := true, laidKinds := [.data, .data, .data], laidTests := true, laidLooks := .later }
def PacketsSameUptoCardSaid : Prop := Claim7.holds Tryd.pinned (.plain (OpenSpec.upto packetsSameSpec)) packetsSameUptoCard

/-- THE SECOND FORM's CARD OF 'plugboardlaw03.PacketsText'. -/
def packetsTextUptoCard : Claim7 := { stood := { row := packetsTextUptoRow, standIns := [], harness := (true, "41b4ec7895ee6e0b0020ee7add012edd42c69675211f8d7e0e49294b61ea020e"), looks := false }, kinds := [], alts := [], laidByText := true, laidKinds := [.data, .data, .data], laidTests := true, laidLooks := .later }
def PacketsTextUptoCardSaid : Prop := Claim7.holds Tryd.pinned (.plain (OpenSpec.upto packetsTextSpec)) packetsTextUptoCard

/-- THE SECOND FORM's CARD OF 'plugboardlaw03.PacketsSpoiled'. -/
def packetsSpoiledUptoCard : Claim7 := { stood := { row := packetsSpoiledUptoRow, standIns := [], harness := (true, "41b4ec7895ee6e0b0020ee7add012edd42c69675211f8d7e0e49294b61ea020e"), looks := false }, kinds := [], alts := [], laidByText := true, laidKinds := [.data, .data, .data], laidTests := true, laidLooks := .later }
def PacketsSpoiledUptoCardSaid : Prop := Claim7.holds Tryd.pinned (.plain (OpenSpec.upto packetsSpoiledSpec)) packetsSpoiledUptoCard
end Rows
end Go.Proofs.YtpdbekbobkjfgaaDoor
