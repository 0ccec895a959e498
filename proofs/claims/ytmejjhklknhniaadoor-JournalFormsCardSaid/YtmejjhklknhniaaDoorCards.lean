/-
  DERIVED. GIVEN WITH THE SEED: THE CARDS: each row of YtmejjhklknhniaaDoorRows.lean that lists a variable, with what it lists TIED to the program's text (the seventh form; the later family's looks); each row that meets fmt, with fmt's text TOLD by the authors' own Lean function (tested against real Go, not proved from fmt's source: count such statements apart). THE CARD IS WHAT COUNTS. Prove the row's statement (the work); the ties are given (YtmejjhklknhniaaDoorTie.lean); close each card by the builder's one call (the guide's Derived/Test/ToyasCard.lean, 'card_holds'). Laid BY PROGRAM, IN A SANDBOX (cutbox-door.mjs). By AI agents, Wed Nov 11 2026. No macro, syntax, notation, axiom, sorry.
-/
import Derived.Test.YtmejjhklknhniaaDoorRows
import GoSem.ClaimSeven
namespace Go.Proofs.YtmejjhklknhniaaDoor
namespace Rows

/-- THE TIED CARD OF 'usherlaw21.JournalNext'. -/
def journalNextCard : Claim7 := { stood := { row := journalNextRow, standIns := [], harness := (true, "25a253283dd92fcc762a5a2cde0663b358805587e0752cc3a92c5e3b6f46c02e"), looks := true }, kinds := [], alts := [], laidByText := true, laidKinds := [.sentinel, .sentinel, .sentinel, .sentinel, .sentinel, .sentinel, .sentinel, .sentinel, .sentinel, .sentinel, .sentinel, .sentinel, .sentinel, .data, .data], laidTests := true, laidLooks := .later }
def JournalNextCardSaid : Prop := Claim7.holds Tryd.pinned (.plain (OpenSpec.ofChange journalNextSpec)) journalNextCard

/-- THE TIED CARD OF 'usherlaw21.JournalCivil'. -/
def journalCivilCard : Claim7 := { stood := { row := journalCivilRow, standIns := [], harness := (true, "25a253283dd92fcc762a5a2cde0663b358805587e0752cc3a92c5e3b6f46c02e"), looks := true }, kinds := [], alts := [], laidByText := true, laidKinds := [.sentinel, .sentinel, .sentinel, .sentinel, .sentinel, .sentinel, .sentinel, .sentinel, .sentinel, .sentinel, .sentinel, .sentinel, .sentinel, .data, .widerDeep, .widerDeep, .data], laidTests := true, laidLooks := .later }
def JournalCivilCardSaid : Prop := Claim7.holds Tryd.pinned (.plain (OpenSpec.ofChange journalCivilSpec)) journalCivilCard

/-- THE TIED CARD OF 'usherlaw21.JournalDates'. -/
def journalDatesCard : Claim7 := { stood := { row := journalDatesRow, standIns := [], harness := (true, "25a253283dd92fcc762a5a2cde0663b358805587e0752cc3a92c5e3b6f46c02e"), looks := true }, kinds := [], alts := [], laidByText := true, laidKinds := [.sentinel, .sentinel, .sentinel, .sentinel, .sentinel, .sentinel, .sentinel, .sentinel, .sentinel, .sentinel, .sentinel, .sentinel, .sentinel, .data, .data, .widerDeep, .widerDeep, .widerDeep, .data], laidTests := true, laidLooks := .later }
def JournalDatesCardSaid : Prop := Claim7.holds Tryd.pinned (.plain (OpenSpec.ofChange journalDatesSpec)) journalDatesCard

/-- THE TIED CARD OF 'usherlaw21.JournalForms'. -/
def journalFormsCard : Claim7 := { stood := { row := journalFormsRow, standIns := [], harness := (true, "25a253283dd92fcc762a5a2cde0663b358805587e0752cc3a92c5e3b6f46c02e"), looks := true }, kinds := [], alts := [], laidByText := true, laidKinds := [.sentinel, .sentinel, .widerDeep, .widerDeep, .widerDeep, .data, .data], laidTests := true, laidLooks := .later }
def JournalFormsCardSaid : Prop := Claim7.holds Tryd.pinned (.plain (OpenSpec.ofChange journalFormsSpec)) journalFormsCard

/-- THE SECOND FORM's CARD OF 'usherlaw21.JournalNext'. -/
def journalNextUptoCard : Claim7 := { stood := { row := journalNextUptoRow, standIns := [], harness := (true, "25a253283dd92fcc762a5a2cde0663b358805587e0752cc3a92c5e3b6f46c02e"), looks := true }, kinds := [], alts := [], laidByText := true, laidKinds := [.sentinel, .sentinel, .sentinel, .sentinel, .sentinel, .sentinel, .sentinel, .sentinel, .sentinel, .sentinel, .sentinel, .sentinel, .sentinel, .data, .data], laidTests := true, laidLooks := .later }
def JournalNextUptoCardSaid : Prop := Claim7.holds Tryd.pinned (.plain (OpenSpec.upto journalNextSpec)) journalNextUptoCard

/-- THE SECOND FORM's CARD OF 'usherlaw21.JournalCivil'. -/
def journalCivilUptoCard : Claim7 := { stood := { row := journalCivilUptoRow, standIns := [], harness := (true, "25a253283dd92fcc762a5a2cde0663b358805587e0752cc3a92c5e3b6f46c02e"), looks := true }, kinds := [], alts := [], laidByText := true, laidKinds := [.sentinel, .sentinel, .sentinel, .sentinel, .sentinel, .sentinel, .sentinel, .sentinel, .sentinel, .sentinel, .sentinel, .sentinel, .sentinel, .data, .widerDeep, .widerDeep, .data], laidTests := true, laidLooks := .later }
def JournalCivilUptoCardSaid : Prop := Claim7.holds Tryd.pinned (.plain (OpenSpec.upto journalCivilSpec)) journalCivilUptoCard

/-- THE SECOND FORM's CARD OF 'usherlaw21.JournalDates'. -/
def journalDatesUptoCard : Claim7 := { stood := { row := journalDatesUptoRow, standIns := [], harness := (true, "25a253283dd92fcc762a5a2cde0663b358805587e0752cc3a92c5e3b6f46c02e"), looks := true }, kinds := [], alts := [], laidByText := true, laidKinds := [.sentinel, .sentinel, .sentinel, .sentinel, .sentinel, .sentinel, .sentinel, .sentinel, .sentinel, .sentinel, .sentinel, .sentinel, .sentinel, .data, .data, .widerDeep, .widerDeep, .widerDeep, .data], laidTests := true, laidLooks := .later }
def JournalDatesUptoCardSaid : Prop := Claim7.holds Tryd.pinned (.plain (OpenSpec.upto journalDatesSpec)) journalDatesUptoCard

/-- THE SECOND FORM's CARD OF 'usherlaw21.JournalForms'. -/
def journalFormsUptoCard : Claim7 := { stood := { row := journalFormsUptoRow, standIns := [], harness := (true, "25a253283dd92fcc762a5a2cde0663b358805587e0752cc3a92c5e3b6f46c02e"), looks := true }, kinds := [], alts := [], laidByText := true, laidKinds := [.sentinel, .sentinel, .widerDeep, .widerDeep, .widerDeep, .data, .data], laidTests := true, laidLooks := .later }
def JournalFormsUptoCardSaid : Prop := Claim7.holds Tryd.pinned (.plain (OpenSpec.upto journalFormsSpec)) journalFormsUptoCard
end Rows
end Go.Proofs.YtmejjhklknhniaaDoor
