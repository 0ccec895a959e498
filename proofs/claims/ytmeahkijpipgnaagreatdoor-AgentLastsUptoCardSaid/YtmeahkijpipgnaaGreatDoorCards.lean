/-
  DERIVED. GIVEN WITH THE SEED: THE CARDS: each row of YtmeahkijpipgnaaGreatDoorRows.lean that lists a variable, with what it lists TIED to the program's text (the seventh form; the later family's looks); each row that meets fmt, with fmt's text TOLD by the authors' own Lean function (tested against real Go, not proved from fmt's source: count such statements apart). THE CARD IS WHAT COUNTS. Prove the row's statement (the work); the ties are given (YtmeahkijpipgnaaGreatDoorTie.lean); close each card by the builder's one call (the guide's Derived/Test/ToyasCard.lean, 'card_holds'). Laid BY PROGRAM, IN A SANDBOX (cutbox-door.mjs). By AI agents, Wed Nov 11 2026. No macro, syntax, notation, axiom, sorry.
-/
import Derived.Test.YtmeahkijpipgnaaGreatDoorRows
import GoSem.ClaimSeven
namespace Go.Proofs.YtmeahkijpipgnaaGreatDoor
namespace Rows

/-- THE TIED CARD OF 'usherlaw23.AgentHops'. -/
def agentHopsCard : Claim7 := { stood := { row := agentHopsRow, standIns := [], harness := (true, "75dd8f9e948ba9f2f42ff964cad3b301b42bc4bff4ef5182d26b8e8497400747"), looks := true }, kinds := [], alts := [], laidByText := true, laidKinds := [.data, .data, .data, .sentinel, .sentinel, .sentinel, .sentinel, .sentinel, .sentinel, .sentinel, .sentinel, .sentinel, .sentinel, .sentinel, .sentinel, .sentinel, .sentinel, .sentinel, .data, .data], laidTests := true, laidLooks := .later }
def AgentHopsCardSaid : Prop := Claim7.holds Tryz.pinned (.plain (OpenSpec.ofChange agentHopsSpec)) agentHopsCard

/-- THE TIED CARD OF 'usherlaw23.AgentLasts'. -/
def agentLastsCard : Claim7 := { stood := { row := agentLastsRow, standIns := [], harness := (true, "75dd8f9e948ba9f2f42ff964cad3b301b42bc4bff4ef5182d26b8e8497400747"), looks := true }, kinds := [], alts := [], laidByText := true, laidKinds := [.data, .data, .data, .sentinel, .sentinel, .sentinel, .sentinel, .sentinel, .data, .data], laidTests := true, laidLooks := .later }
def AgentLastsCardSaid : Prop := Claim7.holds Tryz.pinned (.plain (OpenSpec.ofChange agentLastsSpec)) agentLastsCard

/-- THE TIED CARD OF 'usherlaw23.AgentPlays'. -/
def agentPlaysCard : Claim7 := { stood := { row := agentPlaysRow, standIns := [], harness := (true, "75dd8f9e948ba9f2f42ff964cad3b301b42bc4bff4ef5182d26b8e8497400747"), looks := true }, kinds := [], alts := [], laidByText := true, laidKinds := [.data, .data, .data, .sentinel, .sentinel, .sentinel, .sentinel, .sentinel, .sentinel, .sentinel, .sentinel, .sentinel, .sentinel, .sentinel, .sentinel, .sentinel, .sentinel, .sentinel, .data, .data, .data], laidTests := true, laidLooks := .later }
def AgentPlaysCardSaid : Prop := Claim7.holds Tryz.pinned (.plain (OpenSpec.ofChange agentPlaysSpec)) agentPlaysCard

/-- THE TIED CARD OF 'usherlaw23.AgentMemory'. -/
def agentMemoryCard : Claim7 := { stood := { row := agentMemoryRow, standIns := [], harness := (true, "75dd8f9e948ba9f2f42ff964cad3b301b42bc4bff4ef5182d26b8e8497400747"), looks := true }, kinds := [], alts := [], laidByText := true, laidKinds := [.data, .data, .data, .sentinel, .sentinel, .sentinel, .sentinel, .sentinel, .sentinel, .data, .data, .data], laidTests := true, laidLooks := .later }
def AgentMemoryCardSaid : Prop := Claim7.holds Tryz.pinned (.plain (OpenSpec.ofChange agentMemorySpec)) agentMemoryCard

/-- THE SECOND FORM's CARD OF 'usherlaw23.AgentHops'. -/
def agentHopsUptoCard : Claim7 := { stood := { row := agentHopsUptoRow, standIns := [], harness := (true, "75dd8f9e948ba9f2f42ff964cad3b301b42bc4bff4ef5182d26b8e8497400747"), looks := true }, kinds := [], alts := [], laidByText := true, laidKinds := [.data, .data, .data, .sentinel, .sentinel, .sentinel, .sentinel, .sentinel, .sentinel, .sentinel, .sentinel, .sentinel, .sentinel, .sentinel, .sentinel, .sentinel, .sentinel, .sentinel, .data, .data], laidTests := true, laidLooks := .later }
def AgentHopsUptoCardSaid : Prop := Claim7.holds Tryz.pinned (.plain (OpenSpec.upto agentHopsSpec)) agentHopsUptoCard

/-- THE SECOND FORM's CARD OF 'usherlaw23.AgentLasts'. -/
def agentLastsUptoCard : Claim7 := { stood := { row := agentLastsUptoRow, standIns := [], harness := (true, "75dd8f9e948ba9f2f42ff964cad3b301b42bc4bff4ef5182d26b8e8497400747"), looks := true }, kinds := [], alts := [], laidByText := true, laidKinds := [.data, .data, .data, .sentinel, .sentinel, .sentinel, .sentinel, .sentinel, .data, .data], laidTests := true, laidLooks := .later }
def AgentLastsUptoCardSaid : Prop := Claim7.holds Tryz.pinned (.plain (OpenSpec.upto agentLastsSpec)) agentLastsUptoCard

/-- THE SECOND FORM's CARD OF 'usherlaw23.AgentPlays'. -/
def agentPlaysUptoCard : Claim7 := { stood := { row := agentPlaysUptoRow, standIns := [], harness := (true, "75dd8f9e948ba9f2f42ff964cad3b301b42bc4bff4ef5182d26b8e8497400747"), looks := true }, kinds := [], alts := [], laidByText := true, laidKinds := [.data, .data, .data, .sentinel, .sentinel, .sentinel, .sentinel, .sentinel, .sentinel, .sentinel, .sentinel, .sentinel, .sentinel, .sentinel, .sentinel, .sentinel, .sentinel, .sentinel, .data, .data, .data], laidTests := true, laidLooks := .later }
def AgentPlaysUptoCardSaid : Prop := Claim7.holds Tryz.pinned (.plain (OpenSpec.upto agentPlaysSpec)) agentPlaysUptoCard

/-- THE SECOND FORM's CARD OF 'usherlaw23.AgentMemory'. -/
def agentMemoryUptoCard : Claim7 := { stood := { row := agentMemoryUptoRow, standIns := [], harness := (true, "75dd8f9e948ba9f2f42ff964cad3b301b42bc4bff4ef5182d26b8e8497400747"), looks := true }, kinds := [], alts := [], laidByText := true, laidKinds := [.data, .data, .data, .sentinel, .sentinel, .sentinel, .sentinel, .sentinel, .sentinel, .data, .data, .data], laidTests := true, laidLooks := .later }
def AgentMemoryUptoCardSaid : Prop := Claim7.holds Tryz.pinned (.plain (OpenSpec.upto agentMemorySpec)) agentMemoryUptoCard
end Rows
end Go.Proofs.YtmeahkijpipgnaaGreatDoor
