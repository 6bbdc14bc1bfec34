/-
  DERIVED. GIVEN WITH THE SEED: THE CARDS: each row of YtgapkphkcncgeaaDoorRows.lean that lists a variable, with what it lists TIED to the program's text (the seventh form; the later family's looks); each row that meets fmt, with fmt's text TOLD by the authors' own Lean function (tested against real Go, not proved from fmt's source: count such statements apart). THE CARD IS WHAT COUNTS. Prove the row's statement (the work); the ties are given (YtgapkphkcncgeaaDoorTie.lean); close each card by the builder's one call (the guide's Derived/Test/ToyasCard.lean, 'card_holds'). Laid BY PROGRAM, IN A SANDBOX (cutbox-door.mjs). By AI agents, Wed Nov 11 2026. No macro, syntax, notation, axiom, sorry.
-/
import Derived.Test.YtgapkphkcncgeaaDoorRows
import GoSem.ClaimSeven
namespace Go.Proofs.YtgapkphkcncgeaaDoor
namespace Rows

/-- THE TIED CARD OF 'quoratelaw09.FragSplits'. -/
def fragSplitsCard : Claim7 := { stood := { row := fragSplitsRow, standIns := [], harness := (true, "2a35cf0417e4b815b9626803e4c3c181370c3d205853854c9277f0eed4b5e215"), looks := false }, kinds := [], alts := [], laidByText := true, laidKinds := [.data], laidTests := true, laidLooks := .later }
def FragSplitsCardSaid : Prop := Claim7.holds Tryd.pinned (.plain (OpenSpec.ofChange fragSplitsSpec)) fragSplitsCard

/-- THE TIED CARD OF 'quoratelaw09.FragJoins'. -/
def fragJoinsCard : Claim7 := { stood := { row := fragJoinsRow, standIns := [], harness := (true, "2a35cf0417e4b815b9626803e4c3c181370c3d205853854c9277f0eed4b5e215"), looks := false }, kinds := [], alts := [], laidByText := true, laidKinds := [.data], laidTests := true, laidLooks := .later }
def FragJoinsCardSaid : Prop := Claim7.holds Tryd.pinned (.plain (OpenSpec.ofChange fragJoinsSpec)) fragJoinsCard

/-- THE TIED CARD OF 'quoratelaw09.FragTurns'. -/
def fragTurnsCard : Claim7 := { stood := { row := fragTurnsRow, standIns := [], harness := (true, "2a35cf0417e4b815b9626803e4c3c181370c3d205853854c9277f0eed4b5e215"), looks := false }, kinds := [], alts := [], laidByText := true, laidKinds := [.data], laidTests := true, laidLooks := .later }
def FragTurnsCardSaid : Prop := Claim7.holds Tryd.pinned (.plain (OpenSpec.ofChange fragTurnsSpec)) fragTurnsCard

/-- THE TIED CARD OF 'quoratelaw09.FragNothingWrong'. -/
def fragNothingWrongCard : Claim7 := { stood := { row := fragNothingWrongRow, standIns := [], harness := (true, "2a35cf0417e4b815b9626803e4c3c181370c3d205853854c9277f0eed4b5e215"), looks := false }, kinds := [], alts := [], laidByText := true, laidKinds := [.data], laidTests := true, laidLooks := .later }
def FragNothingWrongCardSaid : Prop := Claim7.holds Tryd.pinned (.plain (OpenSpec.ofChange fragNothingWrongSpec)) fragNothingWrongCard

/-- THE TIED CARD OF 'quoratelaw09.FragGap'. -/
def fragGapCard : Claim7 := { stood := { row := fragGapRow, standIns := [], harness := (true, "2a35cf0417e4b815b9626803e4c3c181370c3d205853854c9277f0eed4b5e215"), looks := false }, kinds := [], alts := [], laidByText := true, laidKinds := [.data], laidTests := true, laidLooks := .later }
def FragGapCardSaid : Prop := Claim7.holds Tryd.pinned (.plain (OpenSpec.ofChange fragGapSpec)) fragGapCard

/-- THE TIED CARD OF 'quoratelaw09.FragOwn'. -/
def fragOwnCard : Claim7 := { stood := { row := fragOwnRow, standIns := [], harness := (true, "2a35cf0417e4b815b9626803e4c3c181370c3d205853854c9277f0eed4b5e215"), looks := false }, kinds := [], alts := [], laidByText := true, laidKinds := [.data], laidTests := true, laidLooks := .later }
def FragOwnCardSaid : Prop := Claim7.holds Tryd.pinned (.plain (OpenSpec.ofChange fragOwnSpec)) fragOwnCard

/-- THE TIED CARD OF 'quoratelaw09.FragThereAndBack'. -/
def fragThereAndBackCard : Claim7 := { stood := { row := fragThereAndBackRow, standIns := [], harness := (true, "2a35cf0417e4b815b9626803e4c3c181370c3d205853854c9277f0eed4b5e215"), looks := false }, kinds := [], alts := [], laidByText := true, laidKinds := [.data], laidTests := true, laidLooks := .later }
def FragThereAndBackCardSaid : Prop := Claim7.holds Tryd.pinned (.plain (OpenSpec.ofChange fragThereAndBackSpec)) fragThereAndBackCard

/-- THE SECOND FORM's CARD OF 'quoratelaw09.FragSplits'. -/
def fragSplitsUptoCard : Claim7 := { stood := { row := fragSplitsUptoRow, standIns := [], harness := (true, "2a35cf0417e4b815b9626803e4c3c181370c3d205853854c9277f0eed4b5e215"), looks := false }, kinds := [], alts := [], laidByText := true, laidKinds := [.data], laidTests := true, laidLooks := .later }
def FragSplitsUptoCardSaid : Prop := Claim7.holds Tryd.pinned (.plain (OpenSpec.upto fragSplitsSpec)) fragSplitsUptoCard

/-- THE SECOND FORM's CARD OF 'quoratelaw09.FragJoins'. -/
def fragJoinsUptoCard : Claim7 := { stood := { row := fragJoinsUptoRow, standIns := [], harness := (true, "2a35cf0417e4b815b9626803e4c3c181370c3d205853854c9277f0eed4b5e215"), looks := false }, kinds := [], alts := [], laidByText := true, laidKinds := [.data], laidTests := true, laidLooks := .later }
def FragJoinsUptoCardSaid : Prop := Claim7.holds Tryd.pinned (.plain (OpenSpec.upto fragJoinsSpec)) fragJoinsUptoCard

/-- THE SECOND FORM's CARD OF 'quoratelaw09.FragTurns'. -/
def fragTurnsUptoCard : Claim7 := { stood := { row := fragTurnsUptoRow, standIns := [], harness := (true, "2a35cf0417e4b815b9626803e4c3c181370c3d205853854c9277f0eed4b5e215"), looks := false }, kinds := [], alts := [], laidByText := true, laidKinds := [.data], laidTests := true, laidLooks := .later }
def FragTurnsUptoCardSaid : Prop := Claim7.holds Tryd.pinned (.plain (OpenSpec.upto fragTurnsSpec)) fragTurnsUptoCard

/-- THE SECOND FORM's CARD OF 'quoratelaw09.FragNothingWrong'. -/
def fragNothingWrongUptoCard : Claim7 := { stood := { row := fragNothingWrongUptoRow, standIns := [], harness := (true, "2a35cf0417e4b815b9626803e4c3c181370c3d205853854c9277f0eed4b5e215"), looks := false }, kinds := [], alts := [], laidByText := true, laidKinds := [.data], laidTests := true, laidLooks := .later }
def FragNothingWrongUptoCardSaid : Prop := Claim7.holds Tryd.pinned (.plain (OpenSpec.upto fragNothingWrongSpec)) fragNothingWrongUptoCard

/-- THE SECOND FORM's CARD OF 'quoratelaw09.FragGap'. -/
def fragGapUptoCard : Claim7 := { stood := { row := fragGapUptoRow, standIns := [], harness := (true, "2a35cf0417e4b815b9626803e4c3c181370c3d205853854c9277f0eed4b5e215"), looks := false }, kinds := [], alts := [], laidByText := true, laidKinds := [.data], laidTests := true, laidLooks := .later }
def FragGapUptoCardSaid : Prop := Claim7.holds Tryd.pinned (.plain (OpenSpec.upto fragGapSpec)) fragGapUptoCard

/-- THE SECOND FORM's CARD OF 'quoratelaw09.FragOwn'. -/
def fragOwnUptoCard : Claim7 := { stood := { row := fragOwnUptoRow, standIns := [], harness := (true, "2a35cf0417e4b815b9626803e4c3c181370c3d205853854c9277f0eed4b5e215"), looks := false }, kinds := [], alts := [], laidByText := true, laidKinds := [.data], laidTests := true, laidLooks := .later }
def FragOwnUptoCardSaid : Prop := Claim7.holds Tryd.pinned (.plain (OpenSpec.upto fragOwnSpec)) fragOwnUptoCard

/-- THE SECOND FORM's CARD OF 'quoratelaw09.FragThereAndBack'. -/
def fragThereAndBackUptoCard : Claim7 := { stood := { row := fragThereAndBackUptoRow, standIns := [], harness := (true, "2a35cf0417e4b815b9626803e4c3c181370c3d205853854c9277f0eed4b5e215"), looks := false }, kinds := [], alts := [], laidByText := true, laidKinds := [.data], laidTests := true, laidLooks := .later }
def FragThereAndBackUptoCardSaid : Prop := Claim7.holds Tryd.pinned (.plain (OpenSpec.upto fragThereAndBackSpec)) fragThereAndBackUptoCard
end Rows
end Go.Proofs.YtgapkphkcncgeaaDoor
