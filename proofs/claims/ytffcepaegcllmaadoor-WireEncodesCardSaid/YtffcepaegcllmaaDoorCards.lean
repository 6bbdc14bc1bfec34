/-
  DERIVED. GIVEN WITH THE SEED: THE CARDS: each row of YtffcepaegcllmaaDoorRows.lean that lists a variable, with what it lists TIED to the program's text (the seventh form; the later family's looks); each row that meets fmt, with fmt's text TOLD by the authors' own Lean function (tested against real Go, not proved from fmt's source: count such statements apart). THE CARD IS WHAT COUNTS. Prove the row's statement (the work); the ties are given (YtffcepaegcllmaaDoorTie.lean); close each card by the builder's one call (the guide's Derived/Test/ToyasCard.lean, 'card_holds'). Laid BY PROGRAM, IN A SANDBOX (cutbox-door.mjs). By AI agents, Wed Nov 11 2026. No macro, syntax, notation, axiom, sorry.
-/
import Derived.Test.YtffcepaegcllmaaDoorRows
import GoSem.ClaimSeven
namespace Go.Proofs.YtffcepaegcllmaaDoor
namespace Rows

/-- THE TIED CARD OF 'quoratelaw01.WireEncodes'. -/
def wireEncodesCard : Claim7 := { stood := { row := wireEncodesRow, standIns := [], harness := (true, "01e16d9cd5593a5cf274efdb19f1b45ac0de2e583a92eb1bff1a62eec524a3a1"), looks := true }, kinds := [], alts := [], laidByText := true, laidKinds := [.data], laidTests := true, laidLooks := .later }
def WireEncodesCardSaid : Prop := Claim7.holds Tryd.pinned (.plain (OpenSpec.ofChange wireEncodesSpec)) wireEncodesCard

/-- THE TIED CARD OF 'quoratelaw01.WireDecodes'. -/
def wireDecodesCard : Claim7 := { stood := { row := wireDecodesRow, standIns := [], harness := (true, "01e16d9cd5593a5cf274efdb19f1b45ac0de2e583a92eb1bff1a62eec524a3a1"), looks := true }, kinds := [], alts := [], laidByText := true, laidKinds := [.data], laidTests := true, laidLooks := .later }
def WireDecodesCardSaid : Prop := Claim7.holds Tryd.pinned (.plain (OpenSpec.ofChange wireDecodesSpec)) wireDecodesCard

/-- THE TIED CARD OF 'quoratelaw01.WireBurst'. -/
def wireBurstCard : Claim7 := { stood := { row := wireBurstRow, standIns := [], harness := (true, "01e16d9cd5593a5cf274efdb19f1b45ac0de2e583a92eb1bff1a62eec524a3a1"), looks := true }, kinds := [], alts := [], laidByText := true, laidKinds := [.data], laidTests := true, laidLooks := .later }
def WireBurstCardSaid : Prop := Claim7.holds Tryd.pinned (.plain (OpenSpec.ofChange wireBurstSpec)) wireBurstCard

/-- THE TIED CARD OF 'quoratelaw01.WireBack'. -/
def wireBackCard : Claim7 := { stood := { row := wireBackRow, standIns := [], harness := (true, "01e16d9cd5593a5cf274efdb19f1b45ac0de2e583a92eb1bff1a62eec524a3a1"), looks := true }, kinds := [], alts := [], laidByText := true, laidKinds := [.data], laidTests := true, laidLooks := .later }
def WireBackCardSaid : Prop := Claim7.holds Tryd.pinned (.plain (OpenSpec.ofChange wireBackSpec)) wireBackCard

/-- THE TIED CARD OF 'quoratelaw01.WireCanon'. -/
def wireCanonCard : Claim7 := { stood := { row := wireCanonRow, standIns := [], harness := (true, "01e16d9cd5593a5cf274efdb19f1b45ac0de2e583a92eb1bff1a62eec524a3a1"), looks := true }, kinds := [], alts := [], laidByText := true, laidKinds := [.data], laidTests := true, laidLooks := .later }
def WireCanonCardSaid : Prop := Claim7.holds Tryd.pinned (.plain (OpenSpec.ofChange wireCanonSpec)) wireCanonCard

/-- THE SECOND FORM's CARD OF 'quoratelaw01.WireEncodes'. -/
def wireEncodesUptoCard : Claim7 := { stood := { row := wireEncodesUptoRow, standIns := [], harness := (true, "01e16d9cd5593a5cf274efdb19f1b45ac0de2e583a92eb1bff1a62eec524a3a1"), looks := true }, kinds := [], alts := [], laidByText := true, laidKinds := [.data], laidTests := true, laidLooks := .later }
def WireEncodesUptoCardSaid : Prop := Claim7.holds Tryd.pinned (.plain (OpenSpec.upto wireEncodesSpec)) wireEncodesUptoCard

/-- THE SECOND FORM's CARD OF 'quoratelaw01.WireDecodes'. -/
def wireDecodesUptoCard : Claim7 := { stood := { row := wireDecodesUptoRow, standIns := [], harness := (true, "01e16d9cd5593a5cf274efdb19f1b45ac0de2e583a92eb1bff1a62eec524a3a1"), looks := true }, kinds := [], alts := [], laidByText := true, laidKinds := [.data], laidTests := true, laidLooks := .later }
def WireDecodesUptoCardSaid : Prop := Claim7.holds Tryd.pinned (.plain (OpenSpec.upto wireDecodesSpec)) wireDecodesUptoCard

/-- THE SECOND FORM's CARD OF 'quoratelaw01.WireBurst'. -/
def wireBurstUptoCard : Claim7 := { stood := { row := wireBurstUptoRow, standIns := [], harness := (true, "01e16d9cd5593a5cf274efdb19f1b45ac0de2e583a92eb1bff1a62eec524a3a1"), looks := true }, kinds := [], alts := [], laidByText := true, laidKinds := [.data], laidTests := true, laidLooks := .later }
def WireBurstUptoCardSaid : Prop := Claim7.holds Tryd.pinned (.plain (OpenSpec.upto wireBurstSpec)) wireBurstUptoCard

/-- THE SECOND FORM's CARD OF 'quoratelaw01.WireBack'. -/
def wireBackUptoCard : Claim7 := { stood := { row := wireBackUptoRow, standIns := [], harness := (true, "01e16d9cd5593a5cf274efdb19f1b45ac0de2e583a92eb1bff1a62eec524a3a1"), looks := true }, kinds := [], alts := [], laidByText := true, laidKinds := [.data], laidTests := true, laidLooks := .later }
def WireBackUptoCardSaid : Prop := Claim7.holds Tryd.pinned (.plain (OpenSpec.upto wireBackSpec)) wireBackUptoCard

/-- THE SECOND FORM's CARD OF 'quoratelaw01.WireCanon'. -/
def wireCanonUptoCard : Claim7 := { stood := { row := wireCanonUptoRow, standIns := [], harness := (true, "01e16d9cd5593a5cf274efdb19f1b45ac0de2e583a92eb1bff1a62eec524a3a1"), looks := true }, kinds := [], alts := [], laidByText := true, laidKinds := [.data], laidTests := true, laidLooks := .later }
def WireCanonUptoCardSaid : Prop := Claim7.holds Tryd.pinned (.plain (OpenSpec.upto wireCanonSpec)) wireCanonUptoCard
end Rows
end Go.Proofs.YtffcepaegcllmaaDoor
