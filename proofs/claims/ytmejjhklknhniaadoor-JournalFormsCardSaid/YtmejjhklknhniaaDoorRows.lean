/-
  NARROWER THAN 'FOR EVERY INPUT', by the rows' own cells (each row's printed sentence says how): JournalNext: laid · JournalCivil: laid · JournalDates: laid · JournalForms: laid.
  DERIVED. THE GIVEN ROWS OF THIS SEAT. 4 by the template 'for every input the law returns true; each argument reads behind the call as it read before'; 0 by the template 'total and deterministic' (their statements: YtmejjhklknhniaaDoorTotals.lean).
  GIVEN WITH THE SEED: the statements are not yours to turn. If you find one false, say at which input.
  Laid BY PROGRAM, IN A SANDBOX (cutbox-rows.mjs): the forced cells as the released guide's own fill.sh prints them over the translation df9df30b470e8d66… (all of the seat's roots in one cut). By AI agents, Wed Nov 11 2026. No macro, syntax, notation, axiom, sorry.
-/
import Derived.Test.YtmejjhklknhniaaDoorChecked
import GoSem.Claim
import GoSem.ClaimJoined
import GoSem.ClaimMapViews
import Derived.JoinedTies
import Derived.KernelRfl
namespace Go.Proofs.YtmejjhklknhniaaDoor
/- THE CELL 'sum', in the pinned program and in every row, IS THE sha256 OF THE DUMP (.gsa) THAT YtmejjhklknhniaaDoorProg.lean LOADS. Nothing in Lean hashes anything: it is a label: what it is worth is what the hold of that sum in a sandbox is worth. -/
noncomputable def Tryd.pinned : Pinned := { name := "ytmejjhklknhniaadoor", sum := "df9df30b470e8d66dfe7f4f2e1bb9e94cb08cf6be1169206b2d98de22bb40bb1", checked := Tryd.checked }
namespace Rows
def none {H : Type} : Left H := { results := [], args := [] }

/- WHAT THE LISTED PACKAGE-LEVEL VARIABLES READ AS WHEN THE CALL BEGINS. Each datum BY PROGRAM (the guide's laid-datum.mjs) off the statement by which the dump's own 'gosem.cut.vars' lays the variable. In a bare row this is a premise. The card (YtmejjhklknhniaaDoorCards.lean) ties it to the program's text. -/
def laid_usher_api_ErrArg {H : Type} : DataW H := .iface "*errors.errorString" (.ptr (.agg [.lit (.string [97, 114, 103, 117, 109, 101, 110, 116])]))
def laid_usher_api_ErrText {H : Type} : DataW H := .iface "*errors.errorString" (.ptr (.agg [.lit (.string [116, 101, 120, 116])]))
def laid_usher_api_ErrMany {H : Type} : DataW H := .iface "*errors.errorString" (.ptr (.agg [.lit (.string [109, 97, 110, 121])]))
def laid_usher_api_ErrTwice {H : Type} : DataW H := .iface "*errors.errorString" (.ptr (.agg [.lit (.string [116, 119, 105, 99, 101])]))
def laid_usher_api_ErrScheme {H : Type} : DataW H := .iface "*errors.errorString" (.ptr (.agg [.lit (.string [115, 99, 104, 101, 109, 101])]))
def laid_usher_api_ErrShort {H : Type} : DataW H := .iface "*errors.errorString" (.ptr (.agg [.lit (.string [115, 104, 111, 114, 116])]))
def laid_usher_api_ErrDry {H : Type} : DataW H := .iface "*errors.errorString" (.ptr (.agg [.lit (.string [100, 114, 121])]))
def laid_usher_api_ErrTaken {H : Type} : DataW H := .iface "*errors.errorString" (.ptr (.agg [.lit (.string [116, 97, 107, 101, 110])]))
def laid_usher_api_ErrFull {H : Type} : DataW H := .iface "*errors.errorString" (.ptr (.agg [.lit (.string [102, 117, 108, 108])]))
def laid_usher_api_ErrDead {H : Type} : DataW H := .iface "*errors.errorString" (.ptr (.agg [.lit (.string [100, 101, 97, 100])]))
def laid_usher_api_ErrLog {H : Type} : DataW H := .iface "*errors.errorString" (.ptr (.agg [.lit (.string [108, 111, 103])]))
def laid_usher_api_ErrLost {H : Type} : DataW H := .iface "*errors.errorString" (.ptr (.agg [.lit (.string [108, 111, 115, 116])]))
def laid_usher_api_ErrDenied {H : Type} : DataW H := .iface "*errors.errorString" (.ptr (.agg [.lit (.string [100, 101, 110, 105, 101, 100])]))
def laid_usher_journal_monthDays {H : Type} : DataW H := .agg [.lit (.int .i64 31), .lit (.int .i64 28), .lit (.int .i64 31), .lit (.int .i64 30), .lit (.int .i64 31), .lit (.int .i64 30), .lit (.int .i64 31), .lit (.int .i64 31), .lit (.int .i64 30), .lit (.int .i64 31), .lit (.int .i64 30), .lit (.int .i64 31)]
def laid_usher_usherlaw21_lengths {H : Type} : DataW H := .agg [.lit (.int .i64 31), .lit (.int .i64 28), .lit (.int .i64 31), .lit (.int .i64 30), .lit (.int .i64 31), .lit (.int .i64 30), .lit (.int .i64 31), .lit (.int .i64 31), .lit (.int .i64 30), .lit (.int .i64 31), .lit (.int .i64 30), .lit (.int .i64 31)]
def laid_usher_usherref21_months {H : Type} : DataW H := .agg [.lit (.int .i64 31), .lit (.int .i64 28), .lit (.int .i64 31), .lit (.int .i64 30), .lit (.int .i64 31), .lit (.int .i64 30), .lit (.int .i64 31), .lit (.int .i64 31), .lit (.int .i64 30), .lit (.int .i64 31), .lit (.int .i64 30), .lit (.int .i64 31)]
def laid_usher_journal_weekdays {H : Type} : DataW H := .agg [.lit (.string [83, 117, 110]), .lit (.string [77, 111, 110]), .lit (.string [84, 117, 101]), .lit (.string [87, 101, 100]), .lit (.string [84, 104, 117]), .lit (.string [70, 114, 105]), .lit (.string [83, 97, 116])]
def laid_usher_journal_monthNames {H : Type} : DataW H := .agg [.lit (.string [74, 97, 110]), .lit (.string [70, 101, 98]), .lit (.string [77, 97, 114]), .lit (.string [65, 112, 114]), .lit (.string [77, 97, 121]), .lit (.string [74, 117, 110]), .lit (.string [74, 117, 108]), .lit (.string [65, 117, 103]), .lit (.string [83, 101, 112]), .lit (.string [79, 99, 116]), .lit (.string [78, 111, 118]), .lit (.string [68, 101, 99])]
def laid_usher_usherref21_longNames {H : Type} : DataW H := .agg [.lit (.string [83, 117, 110, 100, 97, 121]), .lit (.string [77, 111, 110, 100, 97, 121]), .lit (.string [84, 117, 101, 115, 100, 97, 121]), .lit (.string [87, 101, 100, 110, 101, 115, 100, 97, 121]), .lit (.string [84, 104, 117, 114, 115, 100, 97, 121]), .lit (.string [70, 114, 105, 100, 97, 121]), .lit (.string [83, 97, 116, 117, 114, 100, 97, 121])]
def laid_usher_journal_inFull {H : Type} : DataW H := .agg [.lit (.string [83, 117, 110, 100, 97, 121]), .lit (.string [77, 111, 110, 100, 97, 121]), .lit (.string [84, 117, 101, 115, 100, 97, 121]), .lit (.string [87, 101, 100, 110, 101, 115, 100, 97, 121]), .lit (.string [84, 104, 117, 114, 115, 100, 97, 121]), .lit (.string [70, 114, 105, 100, 97, 121]), .lit (.string [83, 97, 116, 117, 114, 100, 97, 121])]
def laid_usher_usherlaw21_longNames {H : Type} : DataW H := .agg [.lit (.string [83, 117, 110, 100, 97, 121]), .lit (.string [77, 111, 110, 100, 97, 121]), .lit (.string [84, 117, 101, 115, 100, 97, 121]), .lit (.string [87, 101, 100, 110, 101, 115, 100, 97, 121]), .lit (.string [84, 104, 117, 114, 115, 100, 97, 121]), .lit (.string [70, 114, 105, 100, 97, 121]), .lit (.string [83, 97, 116, 117, 114, 100, 97, 121])]

/-- 'usherlaw21.JournalNext': WHATEVER THE INPUT: true; the input reads as it did. -/
def journalNextSpec : ChangeSpec := { name := "journalNext", fn := fun _ => fun
  | [d] => { results := [.lit (.bool true)], args := [d] }
  | _ => none }
def journalNextRow : OpenClaim := { program := "ytmejjhklknhniaadoor", sum := "df9df30b470e8d66dfe7f4f2e1bb9e94cb08cf6be1169206b2d98de22bb40bb1", func := "usher/usherlaw21.JournalNext", spec := "journalNext", named := ["usher/api.ErrArg", "usher/journal.monthDays", "usher/usherlaw21.lengths", "usher/api.ErrText", "usher/api.ErrMany", "usher/api.ErrTwice", "usher/api.ErrScheme", "usher/api.ErrShort", "usher/api.ErrDry", "usher/api.ErrTaken", "usher/api.ErrFull", "usher/api.ErrDead", "usher/api.ErrLog", "usher/api.ErrLost", "usher/api.ErrDenied"], apart := false, laid := [("usher/api.ErrArg", laid_usher_api_ErrArg), ("usher/api.ErrText", laid_usher_api_ErrText), ("usher/api.ErrMany", laid_usher_api_ErrMany), ("usher/api.ErrTwice", laid_usher_api_ErrTwice), ("usher/api.ErrScheme", laid_usher_api_ErrScheme), ("usher/api.ErrShort", laid_usher_api_ErrShort), ("usher/api.ErrDry", laid_usher_api_ErrDry), ("usher/api.ErrTaken", laid_usher_api_ErrTaken), ("usher/api.ErrFull", laid_usher_api_ErrFull), ("usher/api.ErrDead", laid_usher_api_ErrDead), ("usher/api.ErrLog", laid_usher_api_ErrLog), ("usher/api.ErrLost", laid_usher_api_ErrLost), ("usher/api.ErrDenied", laid_usher_api_ErrDenied), ("usher/journal.monthDays", laid_usher_journal_monthDays), ("usher/usherlaw21.lengths", laid_usher_usherlaw21_lengths)] }
def JournalNextSaid : Prop := journalNextRow.holds Tryd.pinned (OpenSpec.ofChange journalNextSpec)

/-- ITS FALSE NEIGHBOUR: 'it returns false'. Refute it at one input. -/
def journalNextWrong : ChangeSpec := { name := "journalNext", fn := fun _ => fun
  | [d] => { results := [.lit (.bool false)], args := [d] }
  | _ => none }
def JournalNextWrongFalsely : Prop := journalNextRow.holds Tryd.pinned (OpenSpec.ofChange journalNextWrong)

/-- 'usherlaw21.JournalCivil': WHATEVER THE INPUT: true; the input reads as it did. -/
def journalCivilSpec : ChangeSpec := { name := "journalCivil", fn := fun _ => fun
  | [d] => { results := [.lit (.bool true)], args := [d] }
  | _ => none }
def journalCivilRow : OpenClaim := { program := "ytmejjhklknhniaadoor", sum := "df9df30b470e8d66dfe7f4f2e1bb9e94cb08cf6be1169206b2d98de22bb40bb1", func := "usher/usherlaw21.JournalCivil", spec := "journalCivil", named := ["usher/api.ErrArg", "usher/journal.monthDays", "usher/usherref21.months", "usher/api.ErrText", "usher/api.ErrMany", "usher/api.ErrTwice", "usher/api.ErrScheme", "usher/api.ErrShort", "usher/api.ErrDry", "usher/api.ErrTaken", "usher/api.ErrFull", "usher/api.ErrDead", "usher/api.ErrLog", "usher/api.ErrLost", "usher/api.ErrDenied", "usher/journal.weekdays", "usher/journal.monthNames"], apart := false, laid := [("usher/api.ErrArg", laid_usher_api_ErrArg), ("usher/api.ErrText", laid_usher_api_ErrText), ("usher/api.ErrMany", laid_usher_api_ErrMany), ("usher/api.ErrTwice", laid_usher_api_ErrTwice), ("usher/api.ErrScheme", laid_usher_api_ErrScheme), ("usher/api.ErrShort", laid_usher_api_ErrShort), ("usher/api.ErrDry", laid_usher_api_ErrDry), ("usher/api.ErrTaken", laid_usher_api_ErrTaken), ("usher/api.ErrFull", laid_usher_api_ErrFull), ("usher/api.ErrDead", laid_usher_api_ErrDead), ("usher/api.ErrLog", laid_usher_api_ErrLog), ("usher/api.ErrLost", laid_usher_api_ErrLost), ("usher/api.ErrDenied", laid_usher_api_ErrDenied), ("usher/usherref21.months", laid_usher_usherref21_months), ("usher/journal.weekdays", laid_usher_journal_weekdays), ("usher/journal.monthNames", laid_usher_journal_monthNames), ("usher/journal.monthDays", laid_usher_journal_monthDays)] }
def JournalCivilSaid : Prop := journalCivilRow.holds Tryd.pinned (OpenSpec.ofChange journalCivilSpec)

/-- ITS FALSE NEIGHBOUR: 'it returns false'. Refute it at one input. -/
def journalCivilWrong : ChangeSpec := { name := "journalCivil", fn := fun _ => fun
  | [d] => { results := [.lit (.bool false)], args := [d] }
  | _ => none }
def JournalCivilWrongFalsely : Prop := journalCivilRow.holds Tryd.pinned (OpenSpec.ofChange journalCivilWrong)

/-- 'usherlaw21.JournalDates': WHATEVER THE INPUT: true; the input reads as it did. -/
def journalDatesSpec : ChangeSpec := { name := "journalDates", fn := fun _ => fun
  | [d] => { results := [.lit (.bool true)], args := [d] }
  | _ => none }
def journalDatesRow : OpenClaim := { program := "ytmejjhklknhniaadoor", sum := "df9df30b470e8d66dfe7f4f2e1bb9e94cb08cf6be1169206b2d98de22bb40bb1", func := "usher/usherlaw21.JournalDates", spec := "journalDates", unfollowed := true, recurses := true, named := ["usher/api.ErrText", "usher/api.ErrArg", "usher/journal.monthDays", "usher/journal.weekdays", "usher/journal.monthNames", "usher/journal.inFull", "usher/usherref21.longNames", "usher/usherref21.months", "usher/api.ErrMany", "usher/api.ErrTwice", "usher/api.ErrScheme", "usher/api.ErrShort", "usher/api.ErrDry", "usher/api.ErrTaken", "usher/api.ErrFull", "usher/api.ErrDead", "usher/api.ErrLog", "usher/api.ErrLost", "usher/api.ErrDenied"], apart := false, laid := [("usher/api.ErrArg", laid_usher_api_ErrArg), ("usher/api.ErrText", laid_usher_api_ErrText), ("usher/api.ErrMany", laid_usher_api_ErrMany), ("usher/api.ErrTwice", laid_usher_api_ErrTwice), ("usher/api.ErrScheme", laid_usher_api_ErrScheme), ("usher/api.ErrShort", laid_usher_api_ErrShort), ("usher/api.ErrDry", laid_usher_api_ErrDry), ("usher/api.ErrTaken", laid_usher_api_ErrTaken), ("usher/api.ErrFull", laid_usher_api_ErrFull), ("usher/api.ErrDead", laid_usher_api_ErrDead), ("usher/api.ErrLog", laid_usher_api_ErrLog), ("usher/api.ErrLost", laid_usher_api_ErrLost), ("usher/api.ErrDenied", laid_usher_api_ErrDenied), ("usher/usherref21.months", laid_usher_usherref21_months), ("usher/usherref21.longNames", laid_usher_usherref21_longNames), ("usher/journal.weekdays", laid_usher_journal_weekdays), ("usher/journal.inFull", laid_usher_journal_inFull), ("usher/journal.monthNames", laid_usher_journal_monthNames), ("usher/journal.monthDays", laid_usher_journal_monthDays)] }
def JournalDatesSaid : Prop := journalDatesRow.holds Tryd.pinned (OpenSpec.ofChange journalDatesSpec)

/-- ITS FALSE NEIGHBOUR: 'it returns false'. Refute it at one input. -/
def journalDatesWrong : ChangeSpec := { name := "journalDates", fn := fun _ => fun
  | [d] => { results := [.lit (.bool false)], args := [d] }
  | _ => none }
def JournalDatesWrongFalsely : Prop := journalDatesRow.holds Tryd.pinned (OpenSpec.ofChange journalDatesWrong)

/-- 'usherlaw21.JournalForms': WHATEVER THE INPUT: true; the input reads as it did. -/
def journalFormsSpec : ChangeSpec := { name := "journalForms", fn := fun _ => fun
  | [d] => { results := [.lit (.bool true)], args := [d] }
  | _ => none }
def journalFormsRow : OpenClaim := { program := "ytmejjhklknhniaadoor", sum := "df9df30b470e8d66dfe7f4f2e1bb9e94cb08cf6be1169206b2d98de22bb40bb1", func := "usher/usherlaw21.JournalForms", spec := "journalForms", unfollowed := true, recurses := true, named := ["usher/api.ErrArg", "usher/journal.monthDays", "usher/usherlaw21.longNames", "usher/journal.weekdays", "usher/journal.monthNames", "usher/api.ErrText", "usher/journal.inFull"], apart := false, laid := [("usher/api.ErrArg", laid_usher_api_ErrArg), ("usher/api.ErrText", laid_usher_api_ErrText), ("usher/journal.weekdays", laid_usher_journal_weekdays), ("usher/journal.inFull", laid_usher_journal_inFull), ("usher/journal.monthNames", laid_usher_journal_monthNames), ("usher/journal.monthDays", laid_usher_journal_monthDays), ("usher/usherlaw21.longNames", laid_usher_usherlaw21_longNames)] }
def JournalFormsSaid : Prop := journalFormsRow.holds Tryd.pinned (OpenSpec.ofChange journalFormsSpec)

/-- ITS FALSE NEIGHBOUR: 'it returns false'. Refute it at one input. -/
def journalFormsWrong : ChangeSpec := { name := "journalForms", fn := fun _ => fun
  | [d] => { results := [.lit (.bool false)], args := [d] }
  | _ => none }
def JournalFormsWrongFalsely : Prop := journalFormsRow.holds Tryd.pinned (OpenSpec.ofChange journalFormsWrong)

/- THE SECOND FORM. 'bulk': how many values and letters a reading holds, each counted each time it is reached (what is shared counts as often as it is met; a slice's spare places count too). A statement '..UptoSaid' is the law's where the arguments, and the package variables that the reading takes, are together of bulk at most 1048576: NARROWER than '..Said'. Prove '..Said' where nothing that the law and all that it calls make is longer than what came in: it says more and counts as full. Else prove '..UptoSaid'. A law counts once. -/
mutual
def uptoBulk {H : Type} : DataW H → Nat
  | .lit (.string bytes) => bytes.length + 1
  | .lit _ => 1
  | .nil => 1
  | .ptr d => uptoBulk d + 1
  | .slice elems spare => uptoBulkAll elems + uptoBulkAll spare + 1
  | .agg parts => uptoBulkAll parts + 1
  | .iface _ d => uptoBulk d + 1
  | .map entries => uptoBulkEntries entries + 1
  | .held _ => 1
def uptoBulkAll {H : Type} : List (DataW H) → Nat
  | [] => 0
  | d :: r => uptoBulk d + uptoBulkAll r
def uptoBulkEntries {H : Type} : List (Lit × DataW H) → Nat
  | [] => 0
  | x :: r => uptoBulkEntry x + uptoBulkEntries r
def uptoBulkEntry {H : Type} : Lit × DataW H → Nat
  | (.string bytes, d) => bytes.length + uptoBulk d + 1
  | (_, d) => uptoBulk d + 1
 end
def uptoSmall : (H : Type) → List (DataW H) → Bool := fun _ ds => decide (uptoBulkAll ds ≤ 1048576)
def OpenSpec.upto (s : _root_.Go.ChangeSpec) : _root_.Go.OpenSpec := { _root_.Go.OpenSpec.ofChange s with cond := some uptoSmall }

/-- 'usherlaw21.JournalNext', WHERE WHAT IT READS IS OF BULK AT MOST 1048576: true; the input reads as it did. -/
def journalNextUptoRow : OpenClaim := { program := "ytmejjhklknhniaadoor", sum := "df9df30b470e8d66dfe7f4f2e1bb9e94cb08cf6be1169206b2d98de22bb40bb1", func := "usher/usherlaw21.JournalNext", spec := "journalNext", named := ["usher/api.ErrArg", "usher/journal.monthDays", "usher/usherlaw21.lengths", "usher/api.ErrText", "usher/api.ErrMany", "usher/api.ErrTwice", "usher/api.ErrScheme", "usher/api.ErrShort", "usher/api.ErrDry", "usher/api.ErrTaken", "usher/api.ErrFull", "usher/api.ErrDead", "usher/api.ErrLog", "usher/api.ErrLost", "usher/api.ErrDenied"], apart := false, laid := [("usher/api.ErrArg", laid_usher_api_ErrArg), ("usher/api.ErrText", laid_usher_api_ErrText), ("usher/api.ErrMany", laid_usher_api_ErrMany), ("usher/api.ErrTwice", laid_usher_api_ErrTwice), ("usher/api.ErrScheme", laid_usher_api_ErrScheme), ("usher/api.ErrShort", laid_usher_api_ErrShort), ("usher/api.ErrDry", laid_usher_api_ErrDry), ("usher/api.ErrTaken", laid_usher_api_ErrTaken), ("usher/api.ErrFull", laid_usher_api_ErrFull), ("usher/api.ErrDead", laid_usher_api_ErrDead), ("usher/api.ErrLog", laid_usher_api_ErrLog), ("usher/api.ErrLost", laid_usher_api_ErrLost), ("usher/api.ErrDenied", laid_usher_api_ErrDenied), ("usher/journal.monthDays", laid_usher_journal_monthDays), ("usher/usherlaw21.lengths", laid_usher_usherlaw21_lengths)], narrowed := true }
def JournalNextUptoSaid : Prop := journalNextUptoRow.holds Tryd.pinned (OpenSpec.upto journalNextSpec)

/-- 'usherlaw21.JournalCivil', WHERE WHAT IT READS IS OF BULK AT MOST 1048576: true; the input reads as it did. -/
def journalCivilUptoRow : OpenClaim := { program := "ytmejjhklknhniaadoor", sum := "df9df30b470e8d66dfe7f4f2e1bb9e94cb08cf6be1169206b2d98de22bb40bb1", func := "usher/usherlaw21.JournalCivil", spec := "journalCivil", named := ["usher/api.ErrArg", "usher/journal.monthDays", "usher/usherref21.months", "usher/api.ErrText", "usher/api.ErrMany", "usher/api.ErrTwice", "usher/api.ErrScheme", "usher/api.ErrShort", "usher/api.ErrDry", "usher/api.ErrTaken", "usher/api.ErrFull", "usher/api.ErrDead", "usher/api.ErrLog", "usher/api.ErrLost", "usher/api.ErrDenied", "usher/journal.weekdays", "usher/journal.monthNames"], apart := false, laid := [("usher/api.ErrArg", laid_usher_api_ErrArg), ("usher/api.ErrText", laid_usher_api_ErrText), ("usher/api.ErrMany", laid_usher_api_ErrMany), ("usher/api.ErrTwice", laid_usher_api_ErrTwice), ("usher/api.ErrScheme", laid_usher_api_ErrScheme), ("usher/api.ErrShort", laid_usher_api_ErrShort), ("usher/api.ErrDry", laid_usher_api_ErrDry), ("usher/api.ErrTaken", laid_usher_api_ErrTaken), ("usher/api.ErrFull", laid_usher_api_ErrFull), ("usher/api.ErrDead", laid_usher_api_ErrDead), ("usher/api.ErrLog", laid_usher_api_ErrLog), ("usher/api.ErrLost", laid_usher_api_ErrLost), ("usher/api.ErrDenied", laid_usher_api_ErrDenied), ("usher/usherref21.months", laid_usher_usherref21_months), ("usher/journal.weekdays", laid_usher_journal_weekdays), ("usher/journal.monthNames", laid_usher_journal_monthNames), ("usher/journal.monthDays", laid_usher_journal_monthDays)], narrowed := true }
def JournalCivilUptoSaid : Prop := journalCivilUptoRow.holds Tryd.pinned (OpenSpec.upto journalCivilSpec)

/-- 'usherlaw21.JournalDates', WHERE WHAT IT READS IS OF BULK AT MOST 1048576: true; the input reads as it did. -/
def journalDatesUptoRow : OpenClaim := { program := "ytmejjhklknhniaadoor", sum := "df9df30b470e8d66dfe7f4f2e1bb9e94cb08cf6be1169206b2d98de22bb40bb1", func := "usher/usherlaw21.JournalDates", spec := "journalDates", unfollowed := true, recurses := true, named := ["usher/api.ErrText", "usher/api.ErrArg", "usher/journal.monthDays", "usher/journal.weekdays", "usher/journal.monthNames", "usher/journal.inFull", "usher/usherref21.longNames", "usher/usherref21.months", "usher/api.ErrMany", "usher/api.ErrTwice", "usher/api.ErrScheme", "usher/api.ErrShort", "usher/api.ErrDry", "usher/api.ErrTaken", "usher/api.ErrFull", "usher/api.ErrDead", "usher/api.ErrLog", "usher/api.ErrLost", "usher/api.ErrDenied"], apart := false, laid := [("usher/api.ErrArg", laid_usher_api_ErrArg), ("usher/api.ErrText", laid_usher_api_ErrText), ("usher/api.ErrMany", laid_usher_api_ErrMany), ("usher/api.ErrTwice", laid_usher_api_ErrTwice), ("usher/api.ErrScheme", laid_usher_api_ErrScheme), ("usher/api.ErrShort", laid_usher_api_ErrShort), ("usher/api.ErrDry", laid_usher_api_ErrDry), ("usher/api.ErrTaken", laid_usher_api_ErrTaken), ("usher/api.ErrFull", laid_usher_api_ErrFull), ("usher/api.ErrDead", laid_usher_api_ErrDead), ("usher/api.ErrLog", laid_usher_api_ErrLog), ("usher/api.ErrLost", laid_usher_api_ErrLost), ("usher/api.ErrDenied", laid_usher_api_ErrDenied), ("usher/usherref21.months", laid_usher_usherref21_months), ("usher/usherref21.longNames", laid_usher_usherref21_longNames), ("usher/journal.weekdays", laid_usher_journal_weekdays), ("usher/journal.inFull", laid_usher_journal_inFull), ("usher/journal.monthNames", laid_usher_journal_monthNames), ("usher/journal.monthDays", laid_usher_journal_monthDays)], narrowed := true }
def JournalDatesUptoSaid : Prop := journalDatesUptoRow.holds Tryd.pinned (OpenSpec.upto journalDatesSpec)

/-- 'usherlaw21.JournalForms', WHERE WHAT IT READS IS OF BULK AT MOST 1048576: true; the input reads as it did. -/
def journalFormsUptoRow : OpenClaim := { program := "ytmejjhklknhniaadoor", sum := "df9df30b470e8d66dfe7f4f2e1bb9e94cb08cf6be1169206b2d98de22bb40bb1", func := "usher/usherlaw21.JournalForms", spec := "journalForms", unfollowed := true, recurses := true, named := ["usher/api.ErrArg", "usher/journal.monthDays", "usher/usherlaw21.longNames", "usher/journal.weekdays", "usher/journal.monthNames", "usher/api.ErrText", "usher/journal.inFull"], apart := false, laid := [("usher/api.ErrArg", laid_usher_api_ErrArg), ("usher/api.ErrText", laid_usher_api_ErrText), ("usher/journal.weekdays", laid_usher_journal_weekdays), ("usher/journal.inFull", laid_usher_journal_inFull), ("usher/journal.monthNames", laid_usher_journal_monthNames), ("usher/journal.monthDays", laid_usher_journal_monthDays), ("usher/usherlaw21.longNames", laid_usher_usherlaw21_longNames)], narrowed := true }
def JournalFormsUptoSaid : Prop := journalFormsUptoRow.holds Tryd.pinned (OpenSpec.upto journalFormsSpec)

end Rows
end Go.Proofs.YtmejjhklknhniaaDoor
