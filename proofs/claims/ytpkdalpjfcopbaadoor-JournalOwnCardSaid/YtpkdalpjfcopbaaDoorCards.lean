/-
  DERIVED. GIVEN WITH THE SEED: THE CARDS: each row of YtpkdalpjfcopbaaDoorRows.lean that lists a variable, with what it lists TIED to the program's text (the seventh form; the later family's looks); each row that meets fmt, with fmt's text TOLD by the authors' own Lean function (tested against real Go, not proved from fmt's source: count such statements apart). THE CARD IS WHAT COUNTS. Prove the row's statement (the work); the ties are given (YtpkdalpjfcopbaaDoorTie.lean); close each card by the builder's one call (the guide's Derived/Test/ToyasCard.lean, 'card_holds'). Laid BY PROGRAM, IN A SANDBOX (cutbox-door.mjs). By AI agents, Wed Nov 11 2026. No macro, syntax, notation, axiom, sorry.
-/
import Derived.Test.YtpkdalpjfcopbaaDoorRows
import GoSem.ClaimSeven
namespace Go.Proofs.YtpkdalpjfcopbaaDoor
namespace Rows

/-- THE TIED CARD OF 'quoratelaw12.JournalEach'. -/
def journalEachCard : Claim7 := { stood := { row := journalEachRow, standIns := [], harness := (true, "fbc1505186cb85b5a75b99ab4ea383019e42ce8ea98505986c0692fb5c3d5025"), looks := true }, kinds := [], alts := [], laidByText := true, laidKinds := [.data], laidTests := true, laidLooks := .later }
def JournalEachCardSaid : Prop := Claim7.holds Tryd.pinned (.plain (OpenSpec.ofChange journalEachSpec)) journalEachCard

/-- THE TIED CARD OF 'quoratelaw12.JournalOpens'. -/
def journalOpensCard : Claim7 := { stood := { row := journalOpensRow, standIns := [], harness := (true, "fbc1505186cb85b5a75b99ab4ea383019e42ce8ea98505986c0692fb5c3d5025"), looks := true }, kinds := [], alts := [], laidByText := true, laidKinds := [.data], laidTests := true, laidLooks := .later }
def JournalOpensCardSaid : Prop := Claim7.holds Tryd.pinned (.plain (OpenSpec.ofChange journalOpensSpec)) journalOpensCard

/-- THE TIED CARD OF 'quoratelaw12.JournalAll'. -/
def journalAllCard : Claim7 := { stood := { row := journalAllRow, standIns := [], harness := (true, "fbc1505186cb85b5a75b99ab4ea383019e42ce8ea98505986c0692fb5c3d5025"), looks := true }, kinds := [], alts := [], laidByText := true, laidKinds := [.data], laidTests := true, laidLooks := .later }
def JournalAllCardSaid : Prop := Claim7.holds Tryd.pinned (.plain (OpenSpec.ofChange journalAllSpec)) journalAllCard

/-- THE TIED CARD OF 'quoratelaw12.JournalBetween'. -/
def journalBetweenCard : Claim7 := { stood := { row := journalBetweenRow, standIns := [], harness := (true, "fbc1505186cb85b5a75b99ab4ea383019e42ce8ea98505986c0692fb5c3d5025"), looks := true }, kinds := [], alts := [], laidByText := true, laidKinds := [.data], laidTests := true, laidLooks := .later }
def JournalBetweenCardSaid : Prop := Claim7.holds Tryd.pinned (.plain (OpenSpec.ofChange journalBetweenSpec)) journalBetweenCard

/-- THE TIED CARD OF 'quoratelaw12.JournalEveryUnit'. -/
def journalEveryUnitCard : Claim7 := { stood := { row := journalEveryUnitRow, standIns := [], harness := (true, "fbc1505186cb85b5a75b99ab4ea383019e42ce8ea98505986c0692fb5c3d5025"), looks := true }, kinds := [], alts := [], laidByText := true, laidKinds := [.data], laidTests := true, laidLooks := .later }
def JournalEveryUnitCardSaid : Prop := Claim7.holds Tryd.pinned (.plain (OpenSpec.ofChange journalEveryUnitSpec)) journalEveryUnitCard

/-- THE TIED CARD OF 'quoratelaw12.JournalOwn'. -/
def journalOwnCard : Claim7 := { stood := { row := journalOwnRow, standIns := [], harness := (true, "fbc1505186cb85b5a75b99ab4ea383019e42ce8ea98505986c0692fb5c3d5025"), looks := true }, kinds := [], alts := [], laidByText := true, laidKinds := [.data], laidTests := true, laidLooks := .later }
def JournalOwnCardSaid : Prop := Claim7.holds Tryd.pinned (.plain (OpenSpec.ofChange journalOwnSpec)) journalOwnCard

/-- THE TIED CARD OF 'quoratelaw12.JournalDamage'. -/
def journalDamageCard : Claim7 := { stood := { row := journalDamageRow, standIns := [], harness := (true, "fbc1505186cb85b5a75b99ab4ea383019e42ce8ea98505986c0692fb5c3d5025"), looks := true }, kinds := [], alts := [], laidByText := true, laidKinds := [.data], laidTests := true, laidLooks := .later }
def JournalDamageCardSaid : Prop := Claim7.holds Tryd.pinned (.plain (OpenSpec.ofChange journalDamageSpec)) journalDamageCard

/-- THE SECOND FORM's CARD OF 'quoratelaw12.JournalEach'. -/
def journalEachUptoCard : Claim7 := { stood := { row := journalEachUptoRow, standIns := [], harness := (true, "fbc1505186cb85b5a75b99ab4ea383019e42ce8ea98505986c0692fb5c3d5025"), looks := true }, kinds := [], alts := [], laidByText := true, laidKinds := [.data], laidTests := true, laidLooks := .later }
def JournalEachUptoCardSaid : Prop := Claim7.holds Tryd.pinned (.plain (OpenSpec.upto journalEachSpec)) journalEachUptoCard

/-- THE SECOND FORM's CARD OF 'quoratelaw12.JournalOpens'. -/
def journalOpensUptoCard : Claim7 := { stood := { row := journalOpensUptoRow, standIns := [], harness := (true, "fbc1505186cb85b5a75b99ab4ea383019e42ce8ea98505986c0692fb5c3d5025"), looks := true }, kinds := [], alts := [], laidByText := true, laidKinds := [.data], laidTests := true, laidLooks := .later }
def JournalOpensUptoCardSaid : Prop := Claim7.holds Tryd.pinned (.plain (OpenSpec.upto journalOpensSpec)) journalOpensUptoCard

/-- THE SECOND FORM's CARD OF 'quoratelaw12.JournalAll'. -/
def journalAllUptoCard : Claim7 := { stood := { row := journalAllUptoRow, standIns := [], harness := (true, "fbc1505186cb85b5a75b99ab4ea383019e42ce8ea98505986c0692fb5c3d5025"), looks := true }, kinds := [], alts := [], laidByText := true, laidKinds := [.data], laidTests := true, laidLooks := .later }
def JournalAllUptoCardSaid : Prop := Claim7.holds Tryd.pinned (.plain (OpenSpec.upto journalAllSpec)) journalAllUptoCard

/-- THE SECOND FORM's CARD OF 'quoratelaw12.JournalBetween'. -/
def journalBetweenUptoCard : Claim7 := { stood := { row := journalBetweenUptoRow, standIns := [], harness := (true, "fbc1505186cb85b5a75b99ab4ea383019e42ce8ea98505986c0692fb5c3d5025"), looks := true }, kinds := [], alts := [], laidByText := true, laidKinds := [.data], laidTests := true, laidLooks := .later }
def JournalBetweenUptoCardSaid : Prop := Claim7.holds Tryd.pinned (.plain (OpenSpec.upto journalBetweenSpec)) journalBetweenUptoCard

/-- THE SECOND FORM's CARD OF 'quoratelaw12.JournalEveryUnit'. -/
def journalEveryUnitUptoCard : Claim7 := { stood := { row := journalEveryUnitUptoRow, standIns := [], harness := (true, "fbc1505186cb85b5a75b99ab4ea383019e42ce8ea98505986c0692fb5c3d5025"), looks := true }, kinds := [], alts := [], laidByText := true, laidKinds := [.data], laidTests := true, laidLooks := .later }
def JournalEveryUnitUptoCardSaid : Prop := Claim7.holds Tryd.pinned (.plain (OpenSpec.upto journalEveryUnitSpec)) journalEveryUnitUptoCard

/-- THE SECOND FORM's CARD OF 'quoratelaw12.JournalOwn'. -/
def journalOwnUptoCard : Claim7 := { stood := { row := journalOwnUptoRow, standIns := [], harness := (true, "fbc1505186cb85b5a75b99ab4ea383019e42ce8ea98505986c0692fb5c3d5025"), looks := true }, kinds := [], alts := [], laidByText := true, laidKinds := [.data], laidTests := true, laidLooks := .later }
def JournalOwnUptoCardSaid : Prop := Claim7.holds Tryd.pinned (.plain (OpenSpec.upto journalOwnSpec)) journalOwnUptoCard

/-- THE SECOND FORM's CARD OF 'quoratelaw12.JournalDamage'. -/
def journalDamageUptoCard : Claim7 := { stood := { row := journalDamageUptoRow, standIns := [], harness := (true, "fbc1505186cb85b5a75b99ab4ea383019e42ce8ea98505986c0692fb5c3d5025"), looks := true }, kinds := [], alts := [], laidByText := true, laidKinds := [.data], laidTests := true, laidLooks := .later }
def JournalDamageUptoCardSaid : Prop := Claim7.holds Tryd.pinned (.plain (OpenSpec.upto journalDamageSpec)) journalDamageUptoCard
end Rows
end Go.Proofs.YtpkdalpjfcopbaaDoor
