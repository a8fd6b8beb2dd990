/-
  DERIVED. GIVEN WITH THE SEED: THE CARDS: each row of YtocbblafgjpbeaaDoorRows.lean that lists a variable, with what it lists TIED to the program's text (the seventh form; the later family's looks); each row that meets fmt, with fmt's text TOLD by the authors' own Lean function (tested against real Go, not proved from fmt's source: count such statements apart). THE CARD IS WHAT COUNTS. Prove the row's statement (the work); the ties are given (YtocbblafgjpbeaaDoorTie.lean); close each card by the builder's one call (the guide's Derived/Test/ToyasCard.lean, 'card_holds'). Laid BY PROGRAM, IN A SANDBOX (cutbox-door.mjs). By AI agents, Wed Nov 11 2026. No macro, syntax, notation, axiom, sorry.
-/
import Derived.Test.YtocbblafgjpbeaaDoorRows
import GoSem.ClaimSeven
namespace Go.Proofs.YtocbblafgjpbeaaDoor
namespace Rows

/-- THE TIED CARD OF 'quorumlaw3.TermsChecks'. -/
def termsChecksCard : Claim7 := { stood := { row := termsChecksRow, standIns := [], harness := (true, "5d211c36a8cff0648301d1ab177f319a1a8f2b87e313ce3997bf15d262b4c209"), looks := true }, kinds := [], alts := [], laidByText := true, laidKinds := [.data, .data, .data], laidTests := true, laidLooks := .later }
def TermsChecksCardSaid : Prop := Claim7.holds Tryd.pinned (.plain (OpenSpec.ofChange termsChecksSpec)) termsChecksCard

/-- THE TIED CARD OF 'quorumlaw3.TermsParses'. -/
def termsParsesCard : Claim7 := { stood := { row := termsParsesRow, standIns := [], harness := (true, "5d211c36a8cff0648301d1ab177f319a1a8f2b87e313ce3997bf15d262b4c209"), looks := true }, kinds := [], alts := [], laidByText := true, laidKinds := [.data, .data, .data, .data, .data, .data, .data, .data, .data], laidTests := true, laidLooks := .later }
def TermsParsesCardSaid : Prop := Claim7.holds Tryd.pinned (.plain (OpenSpec.ofChange termsParsesSpec)) termsParsesCard

/-- THE TIED CARD OF 'quorumlaw3.TermsRuns'. -/
def termsRunsCard : Claim7 := { stood := { row := termsRunsRow, standIns := [], harness := (true, "5d211c36a8cff0648301d1ab177f319a1a8f2b87e313ce3997bf15d262b4c209"), looks := true }, kinds := [], alts := [], laidByText := true, laidKinds := [.data, .data, .data], laidTests := true, laidLooks := .later }
def TermsRunsCardSaid : Prop := Claim7.holds Tryd.pinned (.plain (OpenSpec.ofChange termsRunsSpec)) termsRunsCard

/-- THE TIED CARD OF 'quorumlaw3.TermsPrints'. -/
def termsPrintsCard : Claim7 := { stood := { row := termsPrintsRow, standIns := [], harness := (true, "5d211c36a8cff0648301d1ab177f319a1a8f2b87e313ce3997bf15d262b4c209"), looks := true }, kinds := [], alts := [], laidByText := true, laidKinds := [.data, .data, .data, .data, .data, .data, .data, .data, .data, .data, .data, .data], laidTests := true, laidLooks := .later }
def TermsPrintsCardSaid : Prop := Claim7.holds Tryd.pinned (.plain (OpenSpec.ofChange termsPrintsSpec)) termsPrintsCard

/-- THE TIED CARD OF 'quorumlaw3.TermsBlanks'. -/
def termsBlanksCard : Claim7 := { stood := { row := termsBlanksRow, standIns := [], harness := (true, "5d211c36a8cff0648301d1ab177f319a1a8f2b87e313ce3997bf15d262b4c209"), looks := true }, kinds := [], alts := [], laidByText := true, laidKinds := [.data, .data, .data, .data, .data, .data, .data], laidTests := true, laidLooks := .later }
def TermsBlanksCardSaid : Prop := Claim7.holds Tryd.pinned (.plain (OpenSpec.ofChange termsBlanksSpec)) termsBlanksCard

/-- THE TIED CARD OF 'quorumlaw3.TermsSound'. -/
def termsSoundCard : Claim7 := { stood := { row := termsSoundRow, standIns := [], harness := (true, "5d211c36a8cff0648301d1ab177f319a1a8f2b87e313ce3997bf15d262b4c209"), looks := true }, kinds := [], alts := [], laidByText := true, laidKinds := [.data, .data, .data, .data], laidTests := true, laidLooks := .later }
def TermsSoundCardSaid : Prop := Claim7.holds Tryd.pinned (.plain (OpenSpec.ofChange termsSoundSpec)) termsSoundCard

/-- THE TIED CARD OF 'quorumlaw3.TermsKept'. -/
def termsKeptCard : Claim7 := { stood := { row := termsKeptRow, standIns := [], harness := (true, "5d211c36a8cff0648301d1ab177f319a1a8f2b87e313ce3997bf15d262b4c209"), looks := true }, kinds := [], alts := [], laidByText := true, laidKinds := [.data, .data, .data, .data], laidTests := true, laidLooks := .later }
def TermsKeptCardSaid : Prop := Claim7.holds Tryd.pinned (.plain (OpenSpec.ofChange termsKeptSpec)) termsKeptCard

/-- THE TIED CARD OF 'quorumlaw3.TermsFuel'. -/
def termsFuelCard : Claim7 := { stood := { row := termsFuelRow, standIns := [], harness := (true, "5d211c36a8cff0648301d1ab177f319a1a8f2b87e313ce3997bf15d262b4c209"), looks := true }, kinds := [], alts := [], laidByText := true, laidKinds := [.data, .data, .data, .data, .data], laidTests := true, laidLooks := .later }
def TermsFuelCardSaid : Prop := Claim7.holds Tryd.pinned (.plain (OpenSpec.ofChange termsFuelSpec)) termsFuelCard

/-- THE TIED CARD OF 'quorumlaw3.TermsTurned'. -/
def termsTurnedCard : Claim7 := { stood := { row := termsTurnedRow, standIns := [], harness := (true, "5d211c36a8cff0648301d1ab177f319a1a8f2b87e313ce3997bf15d262b4c209"), looks := true }, kinds := [], alts := [], laidByText := true, laidKinds := [.data, .data, .data, .data, .data], laidTests := true, laidLooks := .later }
def TermsTurnedCardSaid : Prop := Claim7.holds Tryd.pinned (.plain (OpenSpec.ofChange termsTurnedSpec)) termsTurnedCard

/-- THE SECOND FORM's CARD OF 'quorumlaw3.TermsChecks'. -/
def termsChecksUptoCard : Claim7 := { stood := { row := termsChecksUptoRow, standIns := [], harness := (true, "5d211c36a8cff0648301d1ab177f319a1a8f2b87e313ce3997bf15d262b4c209"), looks := true }, kinds := [], alts := [], laidByText := true, laidKinds := [.data, .data, .data], laidTests := true, laidLooks := .later }
def TermsChecksUptoCardSaid : Prop := Claim7.holds Tryd.pinned (.plain (OpenSpec.upto termsChecksSpec)) termsChecksUptoCard

/-- THE SECOND FORM's CARD OF 'quorumlaw3.TermsParses'. -/
def termsParsesUptoCard : Claim7 := { stood := { row := termsParsesUptoRow, standIns := [], harness := (true, "5d211c36a8cff0648301d1ab177f319a1a8f2b87e313ce3997bf15d262b4c209"), looks := true }, kinds := [], alts := [], laidByText := true, laidKinds := [.data, .data, .data, .data, .data, .data, .data, .data, .data], laidTests := true, laidLooks := .later }
def TermsParsesUptoCardSaid : Prop := Claim7.holds Tryd.pinned (.plain (OpenSpec.upto termsParsesSpec)) termsParsesUptoCard

/-- THE SECOND FORM's CARD OF 'quorumlaw3.TermsRuns'. -/
def termsRunsUptoCard : Claim7 := { stood := { row := termsRunsUptoRow, standIns := [], harness := (true, "5d211c36a8cff0648301d1ab177f319a1a8f2b87e313ce3997bf15d262b4c209"), looks := true }, kinds := [], alts := [], laidByText := true, laidKinds := [.data, .data, .data], laidTests := true, laidLooks := .later }
def TermsRunsUptoCardSaid : Prop := Claim7.holds Tryd.pinned (.plain (OpenSpec.upto termsRunsSpec)) termsRunsUptoCard

/-- THE SECOND FORM's CARD OF 'quorumlaw3.TermsPrints'. -/
def termsPrintsUptoCard : Claim7 := { stood := { row := termsPrintsUptoRow, standIns := [], harness := (true, "5d211c36a8cff0648301d1ab177f319a1a8f2b87e313ce3997bf15d262b4c209"), looks := true }, kinds := [], alts := [], laidByText := true, laidKinds := [.data, .data, .data, .data, .data, .data, .data, .data, .data, .data, .data, .data], laidTests := true, laidLooks := .later }
def TermsPrintsUptoCardSaid : Prop := Claim7.holds Tryd.pinned (.plain (OpenSpec.upto termsPrintsSpec)) termsPrintsUptoCard

/-- THE SECOND FORM's CARD OF 'quorumlaw3.TermsBlanks'. -/
def termsBlanksUptoCard : Claim7 := { stood := { row := termsBlanksUptoRow, standIns := [], harness := (true, "5d211c36a8cff0648301d1ab177f319a1a8f2b87e313ce3997bf15d262b4c209"), looks := true }, kinds := [], alts := [], laidByText := true, laidKinds := [.data, .data, .data, .data, .data, .data, .data], laidTests := true, laidLooks := .later }
def TermsBlanksUptoCardSaid : Prop := Claim7.holds Tryd.pinned (.plain (OpenSpec.upto termsBlanksSpec)) termsBlanksUptoCard

/-- THE SECOND FORM's CARD OF 'quorumlaw3.TermsSound'. -/
def termsSoundUptoCard : Claim7 := { stood := { row := termsSoundUptoRow, standIns := [], harness := (true, "5d211c36a8cff0648301d1ab177f319a1a8f2b87e313ce3997bf15d262b4c209"), looks := true }, kinds := [], alts := [], laidByText := true, laidKinds := [.data, .data, .data, .data], laidTests := true, laidLooks := .later }
def TermsSoundUptoCardSaid : Prop := Claim7.holds Tryd.pinned (.plain (OpenSpec.upto termsSoundSpec)) termsSoundUptoCard

/-- THE SECOND FORM's CARD OF 'quorumlaw3.TermsKept'. -/
def termsKeptUptoCard : Claim7 := { stood := { row := termsKeptUptoRow, standIns := [], harness := (true, "5d211c36a8cff0648301d1ab177f319a1a8f2b87e313ce3997bf15d262b4c209"), looks := true }, kinds := [], alts := [], laidByText := true, laidKinds := [.data, .data, .data, .data], laidTests := true, laidLooks := .later }
def TermsKeptUptoCardSaid : Prop := Claim7.holds Tryd.pinned (.plain (OpenSpec.upto termsKeptSpec)) termsKeptUptoCard

/-- THE SECOND FORM's CARD OF 'quorumlaw3.TermsFuel'. -/
def termsFuelUptoCard : Claim7 := { stood := { row := termsFuelUptoRow, standIns := [], harness := (true, "5d211c36a8cff0648301d1ab177f319a1a8f2b87e313ce3997bf15d262b4c209"), looks := true }, kinds := [], alts := [], laidByText := true, laidKinds := [.data, .data, .data, .data, .data], laidTests := true, laidLooks := .later }
def TermsFuelUptoCardSaid : Prop := Claim7.holds Tryd.pinned (.plain (OpenSpec.upto termsFuelSpec)) termsFuelUptoCard

/-- THE SECOND FORM's CARD OF 'quorumlaw3.TermsTurned'. -/
def termsTurnedUptoCard : Claim7 := { stood := { row := termsTurnedUptoRow, standIns := [], harness := (true, "5d211c36a8cff0648301d1ab177f319a1a8f2b87e313ce3997bf15d262b4c209"), looks := true }, kinds := [], alts := [], laidByText := true, laidKinds := [.data, .data, .data, .data, .data], laidTests := true, laidLooks := .later }
def TermsTurnedUptoCardSaid : Prop := Claim7.holds Tryd.pinned (.plain (OpenSpec.upto termsTurnedSpec)) termsTurnedUptoCard
end Rows
end Go.Proofs.YtocbblafgjpbeaaDoor
