/-
  DERIVED. GIVEN WITH THE SEED: THE CARDS: each row of YtjafmcahlmopiaaDoorRows.lean that lists a variable, with what it lists TIED to the program's text (the seventh form; the later family's looks); each row that meets fmt, with fmt's text TOLD by the authors' own Lean function (tested against real Go, not proved from fmt's source: count such statements apart). THE CARD IS WHAT COUNTS. Prove the row's statement (the work); the ties are given (YtjafmcahlmopiaaDoorTie.lean); close each card by the builder's one call (the guide's Derived/Test/ToyasCard.lean, 'card_holds'). Laid BY PROGRAM, IN A SANDBOX (cutbox-door.mjs). By AI agents, Wed Nov 11 2026. No macro, syntax, notation, axiom, sorry.
-/
import Derived.Test.YtjafmcahlmopiaaDoorRows
import GoSem.ClaimSeven
namespace Go.Proofs.YtjafmcahlmopiaaDoor
namespace Rows

/-- THE TIED CARD OF 'quoratelaw01.WireSums'. -/
def wireSumsCard : Claim7 := { stood := { row := wireSumsRow, standIns := [], harness := (true, "cfd5a16338df4021c75904ec22929f682c6e3df3a7a0dbb02cdfbbcc6828ac52"), looks := true }, kinds := [], alts := [], laidByText := true, laidKinds := [.data], laidTests := true, laidLooks := .later }
def WireSumsCardSaid : Prop := Claim7.holds Tryd.pinned (.plain (OpenSpec.ofChange wireSumsSpec)) wireSumsCard

/-- THE TIED CARD OF 'quoratelaw01.WireResidue'. -/
def wireResidueCard : Claim7 := { stood := { row := wireResidueRow, standIns := [], harness := (true, "cfd5a16338df4021c75904ec22929f682c6e3df3a7a0dbb02cdfbbcc6828ac52"), looks := true }, kinds := [], alts := [], laidByText := true, laidKinds := [.data], laidTests := true, laidLooks := .later }
def WireResidueCardSaid : Prop := Claim7.holds Tryd.pinned (.plain (OpenSpec.ofChange wireResidueSpec)) wireResidueCard

/-- THE TIED CARD OF 'quoratelaw01.WireLinear'. -/
def wireLinearCard : Claim7 := { stood := { row := wireLinearRow, standIns := [], harness := (true, "cfd5a16338df4021c75904ec22929f682c6e3df3a7a0dbb02cdfbbcc6828ac52"), looks := true }, kinds := [], alts := [], laidByText := true, laidKinds := [.data], laidTests := true, laidLooks := .later }
def WireLinearCardSaid : Prop := Claim7.holds Tryd.pinned (.plain (OpenSpec.ofChange wireLinearSpec)) wireLinearCard

/-- THE TIED CARD OF 'quoratelaw01.WireEncodes'. -/
def wireEncodesCard : Claim7 := { stood := { row := wireEncodesRow, standIns := [], harness := (true, "cfd5a16338df4021c75904ec22929f682c6e3df3a7a0dbb02cdfbbcc6828ac52"), looks := true }, kinds := [], alts := [], laidByText := true, laidKinds := [.data], laidTests := true, laidLooks := .later }
def WireEncodesCardSaid : Prop := Claim7.holds Tryd.pinned (.plain (OpenSpec.ofChange wireEncodesSpec)) wireEncodesCard

/-- THE TIED CARD OF 'quoratelaw01.WireDecodes'. -/
def wireDecodesCard : Claim7 := { stood := { row := wireDecodesRow, standIns := [], harness := (true, "cfd5a16338df4021c75904ec22929f682c6e3df3a7a0dbb02cdfbbcc6828ac52"), looks := true }, kinds := [], alts := [], laidByText := true, laidKinds := [.data], laidTests := true, laidLooks := .later }
def WireDecodesCardSaid : Prop := Claim7.holds Tryd.pinned (.plain (OpenSpec.ofChange wireDecodesSpec)) wireDecodesCard

/-- THE TIED CARD OF 'quoratelaw01.WireBurst'. -/
def wireBurstCard : Claim7 := { stood := { row := wireBurstRow, standIns := [], harness := (true, "cfd5a16338df4021c75904ec22929f682c6e3df3a7a0dbb02cdfbbcc6828ac52"), looks := true }, kinds := [], alts := [], laidByText := true, laidKinds := [.data], laidTests := true, laidLooks := .later }
def WireBurstCardSaid : Prop := Claim7.holds Tryd.pinned (.plain (OpenSpec.ofChange wireBurstSpec)) wireBurstCard

/-- THE TIED CARD OF 'quoratelaw01.WireBack'. -/
def wireBackCard : Claim7 := { stood := { row := wireBackRow, standIns := [], harness := (true, "cfd5a16338df4021c75904ec22929f682c6e3df3a7a0dbb02cdfbbcc6828ac52"), looks := true }, kinds := [], alts := [], laidByText := true, laidKinds := [.data], laidTests := true, laidLooks := .later }
def WireBackCardSaid : Prop := Claim7.holds Tryd.pinned (.plain (OpenSpec.ofChange wireBackSpec)) wireBackCard

/-- THE TIED CARD OF 'quoratelaw01.WireCanon'. -/
def wireCanonCard : Claim7 := { stood := { row := wireCanonRow, standIns := [], harness := (true, "cfd5a16338df4021c75904ec22929f682c6e3df3a7a0dbb02cdfbbcc6828ac52"), looks := true }, kinds := [], alts := [], laidByText := true, laidKinds := [.data], laidTests := true, laidLooks := .later }
def WireCanonCardSaid : Prop := Claim7.holds Tryd.pinned (.plain (OpenSpec.ofChange wireCanonSpec)) wireCanonCard

/-- THE SECOND FORM's CARD OF 'quoratelaw01.WireSums'. -/
def wireSumsUptoCard : Claim7 := { stood := { row := wireSumsUptoRow, standIns := [], harness := (true, "cfd5a16338df4021c75904ec22929f682c6e3df3a7a0dbb02cdfbbcc6828ac52"), looks := true }, kinds := [], alts := [], laidByText := true, laidKinds := [.data], laidTests := true, laidLooks := .later }
def WireSumsUptoCardSaid : Prop := Claim7.holds Tryd.pinned (.plain (OpenSpec.upto wireSumsSpec)) wireSumsUptoCard

/-- THE SECOND FORM's CARD OF 'quoratelaw01.WireResidue'. -/
def wireResidueUptoCard : Claim7 := { stood := { row := wireResidueUptoRow, standIns := [], harness := (true, "cfd5a16338df4021c75904ec22929f682c6e3df3a7a0dbb02cdfbbcc6828ac52"), looks := true }, kinds := [], alts := [], laidByText := true, laidKinds := [.data], laidTests := true, laidLooks := .later }
def WireResidueUptoCardSaid : Prop := Claim7.holds Tryd.pinned (.plain (OpenSpec.upto wireResidueSpec)) wireResidueUptoCard

/-- THE SECOND FORM's CARD OF 'quoratelaw01.WireLinear'. -/
def wireLinearUptoCard : Claim7 := { stood := { row := wireLinearUptoRow, standIns := [], harness := (true, "cfd5a16338df4021c75904ec22929f682c6e3df3a7a0dbb02cdfbbcc6828ac52"), looks := true }, kinds := [], alts := [], laidByText := true, laidKinds := [.data], laidTests := true, laidLooks := .later }
def WireLinearUptoCardSaid : Prop := Claim7.holds Tryd.pinned (.plain (OpenSpec.upto wireLinearSpec)) wireLinearUptoCard

/-- THE SECOND FORM's CARD OF 'quoratelaw01.WireEncodes'. -/
def wireEncodesUptoCard : Claim7 := { stood := { row := wireEncodesUptoRow, standIns := [], harness := (true, "cfd5a16338df4021c75904ec22929f682c6e3df3a7a0dbb02cdfbbcc6828ac52"), looks := true }, kinds := [], alts := [], laidByText := true, laidKinds := [.data], laidTests := true, laidLooks := .later }
def WireEncodesUptoCardSaid : Prop := Claim7.holds Tryd.pinned (.plain (OpenSpec.upto wireEncodesSpec)) wireEncodesUptoCard

/-- THE SECOND FORM's CARD OF 'quoratelaw01.WireDecodes'. -/
def wireDecodesUptoCard : Claim7 := { stood := { row := wireDecodesUptoRow, standIns := [], harness := (true, "cfd5a16338df4021c75904ec22929f682c6e3df3a7a0dbb02cdfbbcc6828ac52"), looks := true }, kinds := [], alts := [], laidByText := true, laidKinds := [.data], laidTests := true, laidLooks := .later }
def WireDecodesUptoCardSaid : Prop := Claim7.holds Tryd.pinned (.plain (OpenSpec.upto wireDecodesSpec)) wireDecodesUptoCard

/-- THE SECOND FORM's CARD OF 'quoratelaw01.WireBurst'. -/
def wireBurstUptoCard : Claim7 := { stood := { row := wireBurstUptoRow, standIns := [], harness := (true, "cfd5a16338df4021c75904ec22929f682c6e3df3a7a0dbb02cdfbbcc6828ac52"), looks := true }, kinds := [], alts := [], laidByText := true, laidKinds := [.data], laidTests := true, laidLooks := .later }
def WireBurstUptoCardSaid : Prop := Claim7.holds Tryd.pinned (.plain (OpenSpec.upto wireBurstSpec)) wireBurstUptoCard

/-- THE SECOND FORM's CARD OF 'quoratelaw01.WireBack'. -/
def wireBackUptoCard : Claim7 := { stood := { row := wireBackUptoRow, standIns := [], harness := (true, "cfd5a16338df4021c75904ec22929f682c6e3df3a7a0dbb02cdfbbcc6828ac52"), looks := true }, kinds := [], alts := [], laidByText := true, laidKinds := [.data], laidTests := true, laidLooks := .later }
def WireBackUptoCardSaid : Prop := Claim7.holds Tryd.pinned (.plain (OpenSpec.upto wireBackSpec)) wireBackUptoCard

/-- THE SECOND FORM's CARD OF 'quoratelaw01.WireCanon'. -/
def wireCanonUptoCard : Claim7 := { stood := { row := wireCanonUptoRow, standIns := [], harness := (true, "cfd5a16338df4021c75904ec22929f682c6e3df3a7a0dbb02cdfbbcc6828ac52"), looks := true }, kinds := [], alts := [], laidByText := true, laidKinds := [.data], laidTests := true, laidLooks := .later }
def WireCanonUptoCardSaid : Prop := Claim7.holds Tryd.pinned (.plain (OpenSpec.upto wireCanonSpec)) wireCanonUptoCard
end Rows
end Go.Proofs.YtjafmcahlmopiaaDoor
