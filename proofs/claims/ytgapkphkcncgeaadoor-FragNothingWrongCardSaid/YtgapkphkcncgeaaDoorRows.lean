/-
  NARROWER THAN 'FOR EVERY INPUT', by the rows' own cells (each row's printed sentence says how): FragSplits: laid · FragJoins: laid · FragTurns: laid · FragNothingWrong: laid · FragGap: laid · FragOwn: laid · FragThereAndBack: laid.
  DERIVED. THE GIVEN ROWS OF THIS SEAT. 7 by the template 'for every input the law returns true; each argument reads behind the call as it read before'; 0 by the template 'total and deterministic' (their statements: YtgapkphkcncgeaaDoorTotals.lean).
  GIVEN WITH THE SEED: the statements are not yours to turn. If you find one false, say at which input.
  Laid BY PROGRAM, IN A SANDBOX (cutbox-rows.mjs): the forced cells as the released guide's own fill.sh prints them over the translation aee3bf84be3b163a… (all of the seat's roots in one cut). By AI agents, Wed Nov 11 2026. No macro, syntax, notation, axiom, sorry.
-/
import Derived.Test.YtgapkphkcncgeaaDoorChecked
import GoSem.Claim
import GoSem.ClaimJoined
import GoSem.ClaimMapViews
import Derived.JoinedTies
import Derived.KernelRfl
namespace Go.Proofs.YtgapkphkcncgeaaDoor
/- THE CELL 'sum', in the pinned program and in every row, IS THE sha256 OF THE DUMP (.gsa) THAT YtgapkphkcncgeaaDoorProg.lean LOADS. Nothing in Lean hashes anything: it is a label: what it is worth is what the hold of that sum in a sandbox is worth. -/
noncomputable def Tryd.pinned : Pinned := { name := "ytgapkphkcncgeaadoor", sum := "aee3bf84be3b163a53f79c06a847ba7701b65d6f0e9839461fc467f67981ce15", checked := Tryd.checked }
namespace Rows
def none {H : Type} : Left H := { results := [], args := [] }

/- WHAT THE LISTED PACKAGE-LEVEL VARIABLES READ AS WHEN THE CALL BEGINS. Each datum BY PROGRAM (the guide's laid-datum.mjs) off the statement by which the dump's own 'gosem.cut.vars' lays the variable. In a bare row this is a premise. The card (YtgapkphkcncgeaaDoorCards.lean) ties it to the program's text. -/
def laid_quorate_wire_nibble {H : Type} : DataW H := .agg [.lit (.int .u32 0), .lit (.int .u32 498536548), .lit (.int .u32 997073096), .lit (.int .u32 651767980), .lit (.int .u32 1994146192), .lit (.int .u32 1802195444), .lit (.int .u32 1303535960), .lit (.int .u32 1342533948), .lit (.int .u32 3988292384), .lit (.int .u32 4027552580), .lit (.int .u32 3604390888), .lit (.int .u32 3412177804), .lit (.int .u32 2607071920), .lit (.int .u32 2262029012), .lit (.int .u32 2685067896), .lit (.int .u32 3183342108)]

/-- 'quoratelaw09.FragSplits': WHATEVER THE INPUT: true; the input reads as it did. -/
def fragSplitsSpec : ChangeSpec := { name := "fragSplits", fn := fun _ => fun
  | [d] => { results := [.lit (.bool true)], args := [d] }
  | _ => none }
def fragSplitsRow : OpenClaim := { program := "ytgapkphkcncgeaadoor", sum := "aee3bf84be3b163a53f79c06a847ba7701b65d6f0e9839461fc467f67981ce15", func := "quorate/quoratelaw09.FragSplits", spec := "fragSplits", named := ["quorate/wire.nibble"], apart := false, laid := [("quorate/wire.nibble", laid_quorate_wire_nibble)] }
def FragSplitsSaid : Prop := fragSplitsRow.holds Tryd.pinned (OpenSpec.ofChange fragSplitsSpec)

/-- ITS FALSE NEIGHBOUR: 'it returns false'. Refute it at one input. -/
def fragSplitsWrong : ChangeSpec := { name := "fragSplits", fn := fun _ => fun
  | [d] => { results := [.lit (.bool false)], args := [d] }
  | _ => none }
def FragSplitsWrongFalsely : Prop := fragSplitsRow.holds Tryd.pinned (OpenSpec.ofChange fragSplitsWrong)

/-- 'quoratelaw09.FragJoins': WHATEVER THE INPUT: true; the input reads as it did. -/
def fragJoinsSpec : ChangeSpec := { name := "fragJoins", fn := fun _ => fun
  | [d1, d2] => { results := [.lit (.bool true)], args := [d1, d2] }
  | _ => none }
def fragJoinsRow : OpenClaim := { program := "ytgapkphkcncgeaadoor", sum := "aee3bf84be3b163a53f79c06a847ba7701b65d6f0e9839461fc467f67981ce15", func := "quorate/quoratelaw09.FragJoins", spec := "fragJoins", named := ["quorate/wire.nibble"], apart := false, laid := [("quorate/wire.nibble", laid_quorate_wire_nibble)] }
def FragJoinsSaid : Prop := fragJoinsRow.holds Tryd.pinned (OpenSpec.ofChange fragJoinsSpec)

/-- ITS FALSE NEIGHBOUR: 'it returns false'. Refute it at one input. -/
def fragJoinsWrong : ChangeSpec := { name := "fragJoins", fn := fun _ => fun
  | [d1, d2] => { results := [.lit (.bool false)], args := [d1, d2] }
  | _ => none }
def FragJoinsWrongFalsely : Prop := fragJoinsRow.holds Tryd.pinned (OpenSpec.ofChange fragJoinsWrong)

/-- 'quoratelaw09.FragTurns': WHATEVER THE INPUT: true; the input reads as it did. -/
def fragTurnsSpec : ChangeSpec := { name := "fragTurns", fn := fun _ => fun
  | [d1, d2, d3, d4] => { results := [.lit (.bool true)], args := [d1, d2, d3, d4] }
  | _ => none }
def fragTurnsRow : OpenClaim := { program := "ytgapkphkcncgeaadoor", sum := "aee3bf84be3b163a53f79c06a847ba7701b65d6f0e9839461fc467f67981ce15", func := "quorate/quoratelaw09.FragTurns", spec := "fragTurns", named := ["quorate/wire.nibble"], apart := false, laid := [("quorate/wire.nibble", laid_quorate_wire_nibble)] }
def FragTurnsSaid : Prop := fragTurnsRow.holds Tryd.pinned (OpenSpec.ofChange fragTurnsSpec)

/-- ITS FALSE NEIGHBOUR: 'it returns false'. Refute it at one input. -/
def fragTurnsWrong : ChangeSpec := { name := "fragTurns", fn := fun _ => fun
  | [d1, d2, d3, d4] => { results := [.lit (.bool false)], args := [d1, d2, d3, d4] }
  | _ => none }
def FragTurnsWrongFalsely : Prop := fragTurnsRow.holds Tryd.pinned (OpenSpec.ofChange fragTurnsWrong)

/-- 'quoratelaw09.FragNothingWrong': WHATEVER THE INPUT: true; the input reads as it did. -/
def fragNothingWrongSpec : ChangeSpec := { name := "fragNothingWrong", fn := fun _ => fun
  | [d1, d2] => { results := [.lit (.bool true)], args := [d1, d2] }
  | _ => none }
def fragNothingWrongRow : OpenClaim := { program := "ytgapkphkcncgeaadoor", sum := "aee3bf84be3b163a53f79c06a847ba7701b65d6f0e9839461fc467f67981ce15", func := "quorate/quoratelaw09.FragNothingWrong", spec := "fragNothingWrong", named := ["quorate/wire.nibble"], apart := false, laid := [("quorate/wire.nibble", laid_quorate_wire_nibble)] }
def FragNothingWrongSaid : Prop := fragNothingWrongRow.holds Tryd.pinned (OpenSpec.ofChange fragNothingWrongSpec)

/-- ITS FALSE NEIGHBOUR: 'it returns false'. Refute it at one input. -/
def fragNothingWrongWrong : ChangeSpec := { name := "fragNothingWrong", fn := fun _ => fun
  | [d1, d2] => { results := [.lit (.bool false)], args := [d1, d2] }
  | _ => none }
def FragNothingWrongWrongFalsely : Prop := fragNothingWrongRow.holds Tryd.pinned (OpenSpec.ofChange fragNothingWrongWrong)

/-- 'quoratelaw09.FragGap': WHATEVER THE INPUT: true; the input reads as it did. -/
def fragGapSpec : ChangeSpec := { name := "fragGap", fn := fun _ => fun
  | [d1, d2, d3, d4] => { results := [.lit (.bool true)], args := [d1, d2, d3, d4] }
  | _ => none }
def fragGapRow : OpenClaim := { program := "ytgapkphkcncgeaadoor", sum := "aee3bf84be3b163a53f79c06a847ba7701b65d6f0e9839461fc467f67981ce15", func := "quorate/quoratelaw09.FragGap", spec := "fragGap", named := ["quorate/wire.nibble"], apart := false, laid := [("quorate/wire.nibble", laid_quorate_wire_nibble)] }
def FragGapSaid : Prop := fragGapRow.holds Tryd.pinned (OpenSpec.ofChange fragGapSpec)

/-- ITS FALSE NEIGHBOUR: 'it returns false'. Refute it at one input. -/
def fragGapWrong : ChangeSpec := { name := "fragGap", fn := fun _ => fun
  | [d1, d2, d3, d4] => { results := [.lit (.bool false)], args := [d1, d2, d3, d4] }
  | _ => none }
def FragGapWrongFalsely : Prop := fragGapRow.holds Tryd.pinned (OpenSpec.ofChange fragGapWrong)

/-- 'quoratelaw09.FragOwn': WHATEVER THE INPUT: true; the input reads as it did. -/
def fragOwnSpec : ChangeSpec := { name := "fragOwn", fn := fun _ => fun
  | [d] => { results := [.lit (.bool true)], args := [d] }
  | _ => none }
def fragOwnRow : OpenClaim := { program := "ytgapkphkcncgeaadoor", sum := "aee3bf84be3b163a53f79c06a847ba7701b65d6f0e9839461fc467f67981ce15", func := "quorate/quoratelaw09.FragOwn", spec := "fragOwn", named := ["quorate/wire.nibble"], apart := false, laid := [("quorate/wire.nibble", laid_quorate_wire_nibble)] }
def FragOwnSaid : Prop := fragOwnRow.holds Tryd.pinned (OpenSpec.ofChange fragOwnSpec)

/-- ITS FALSE NEIGHBOUR: 'it returns false'. Refute it at one input. -/
def fragOwnWrong : ChangeSpec := { name := "fragOwn", fn := fun _ => fun
  | [d] => { results := [.lit (.bool false)], args := [d] }
  | _ => none }
def FragOwnWrongFalsely : Prop := fragOwnRow.holds Tryd.pinned (OpenSpec.ofChange fragOwnWrong)

/-- 'quoratelaw09.FragThereAndBack': WHATEVER THE INPUT: true; the input reads as it did. -/
def fragThereAndBackSpec : ChangeSpec := { name := "fragThereAndBack", fn := fun _ => fun
  | [d1, d2, d3, d4, d5] => { results := [.lit (.bool true)], args := [d1, d2, d3, d4, d5] }
  | _ => none }
def fragThereAndBackRow : OpenClaim := { program := "ytgapkphkcncgeaadoor", sum := "aee3bf84be3b163a53f79c06a847ba7701b65d6f0e9839461fc467f67981ce15", func := "quorate/quoratelaw09.FragThereAndBack", spec := "fragThereAndBack", named := ["quorate/wire.nibble"], apart := false, laid := [("quorate/wire.nibble", laid_quorate_wire_nibble)] }
def FragThereAndBackSaid : Prop := fragThereAndBackRow.holds Tryd.pinned (OpenSpec.ofChange fragThereAndBackSpec)

/-- ITS FALSE NEIGHBOUR: 'it returns false'. Refute it at one input. -/
def fragThereAndBackWrong : ChangeSpec := { name := "fragThereAndBack", fn := fun _ => fun
  | [d1, d2, d3, d4, d5] => { results := [.lit (.bool false)], args := [d1, d2, d3, d4, d5] }
  | _ => none }
def FragThereAndBackWrongFalsely : Prop := fragThereAndBackRow.holds Tryd.pinned (OpenSpec.ofChange fragThereAndBackWrong)

/- THE SECOND FORM. 'bulk': how many values and letters a reading holds, each counted each time it is reached (what is shared counts as often as it is met; a slice's spare places count too). A statement '..UptoSaid' is the law's where the arguments, and the package variables that the reading takes, are together of bulk at most 1048576: NARROWER than '..Said'. Prove '..Said' where nothing that the law and all that it calls make is longer than what came in: it says more and counts as full. Else prove '..UptoSaid'. A law counts once. -/
mutual
def uptoBulk {H : Type} : DataW H → Nat
  | .lit (.string bytes) => bytes.length + 1
  | .lit _ => 1
  | .nil => 1
  | .ptr d => uptoBulk d + 1
  | .slice elems spare => uptoBulkAll elems + uptoBulkAll spare + 1
  | .agg parts => uptoBulkAll parts + 1
  | .iface _ d => uptoBulk d + 1
  | .map entries => uptoBulkEntries entries + 1
  | .held _ => 1
def uptoBulkAll {H : Type} : List (DataW H) → Nat
  | [] => 0
  | d :: r => uptoBulk d + uptoBulkAll r
def uptoBulkEntries {H : Type} : List (Lit × DataW H) → Nat
  | [] => 0
  | x :: r => uptoBulkEntry x + uptoBulkEntries r
def uptoBulkEntry {H : Type} : Lit × DataW H → Nat
  | (.string bytes, d) => bytes.length + uptoBulk d + 1
  | (_, d) => uptoBulk d + 1
 end
def uptoSmall : (H : Type) → List (DataW H) → Bool := fun _ ds => decide (uptoBulkAll ds ≤ 1048576)
def OpenSpec.upto (s : _root_.Go.ChangeSpec) : _root_.Go.OpenSpec := { _root_.Go.OpenSpec.ofChange s with cond := some uptoSmall }

/-- 'quoratelaw09.FragSplits', WHERE WHAT IT READS IS OF BULK AT MOST 1048576: true; the input reads as it did. -/
def fragSplitsUptoRow : OpenClaim := { program := "ytgapkphkcncgeaadoor", sum := "aee3bf84be3b163a53f79c06a847ba7701b65d6f0e9839461fc467f67981ce15", func := "quorate/quoratelaw09.FragSplits", spec := "fragSplits", named := ["quorate/wire.nibble"], apart := false, laid := [("quorate/wire.nibble", laid_quorate_wire_nibble)], narrowed := true }
def FragSplitsUptoSaid : Prop := fragSplitsUptoRow.holds Tryd.pinned (OpenSpec.upto fragSplitsSpec)

/-- 'quoratelaw09.FragJoins', WHERE WHAT IT READS IS OF BULK AT MOST 1048576: true; the input reads as it did. -/
def fragJoinsUptoRow : OpenClaim := { program := "ytgapkphkcncgeaadoor", sum := "aee3bf84be3b163a53f79c06a847ba7701b65d6f0e9839461fc467f67981ce15", func := "quorate/quoratelaw09.FragJoins", spec := "fragJoins", named := ["quorate/wire.nibble"], apart := false, laid := [("quorate/wire.nibble", laid_quorate_wire_nibble)], narrowed := true }
def FragJoinsUptoSaid : Prop := fragJoinsUptoRow.holds Tryd.pinned (OpenSpec.upto fragJoinsSpec)

/-- 'quoratelaw09.FragTurns', WHERE WHAT IT READS IS OF BULK AT MOST 1048576: true; the input reads as it did. -/
def fragTurnsUptoRow : OpenClaim := { program := "ytgapkphkcncgeaadoor", sum := "aee3bf84be3b163a53f79c06a847ba7701b65d6f0e9839461fc467f67981ce15", func := "quorate/quoratelaw09.FragTurns", spec := "fragTurns", named := ["quorate/wire.nibble"], apart := false, laid := [("quorate/wire.nibble", laid_quorate_wire_nibble)], narrowed := true }
def FragTurnsUptoSaid : Prop := fragTurnsUptoRow.holds Tryd.pinned (OpenSpec.upto fragTurnsSpec)

/-- 'quoratelaw09.FragNothingWrong', WHERE WHAT IT READS IS OF BULK AT MOST 1048576: true; the input reads as it did. -/
def fragNothingWrongUptoRow : OpenClaim := { program := "ytgapkphkcncgeaadoor", sum := "aee3bf84be3b163a53f79c06a847ba7701b65d6f0e9839461fc467f67981ce15", func := "quorate/quoratelaw09.FragNothingWrong", spec := "fragNothingWrong", named := ["quorate/wire.nibble"], apart := false, laid := [("quorate/wire.nibble", laid_quorate_wire_nibble)], narrowed := true }
def FragNothingWrongUptoSaid : Prop := fragNothingWrongUptoRow.holds Tryd.pinned (OpenSpec.upto fragNothingWrongSpec)

/-- 'quoratelaw09.FragGap', WHERE WHAT IT READS IS OF BULK AT MOST 1048576: true; the input reads as it did. -/
def fragGapUptoRow : OpenClaim := { program := "ytgapkphkcncgeaadoor", sum := "aee3bf84be3b163a53f79c06a847ba7701b65d6f0e9839461fc467f67981ce15", func := "quorate/quoratelaw09.FragGap", spec := "fragGap", named := ["quorate/wire.nibble"], apart := false, laid := [("quorate/wire.nibble", laid_quorate_wire_nibble)], narrowed := true }
def FragGapUptoSaid : Prop := fragGapUptoRow.holds Tryd.pinned (OpenSpec.upto fragGapSpec)

/-- 'quoratelaw09.FragOwn', WHERE WHAT IT READS IS OF BULK AT MOST 1048576: true; the input reads as it did. -/
def fragOwnUptoRow : OpenClaim := { program := "ytgapkphkcncgeaadoor", sum := "aee3bf84be3b163a53f79c06a847ba7701b65d6f0e9839461fc467f67981ce15", func := "quorate/quoratelaw09.FragOwn", spec := "fragOwn", named := ["quorate/wire.nibble"], apart := false, laid := [("quorate/wire.nibble", laid_quorate_wire_nibble)], narrowed := true }
def FragOwnUptoSaid : Prop := fragOwnUptoRow.holds Tryd.pinned (OpenSpec.upto fragOwnSpec)

/-- 'quoratelaw09.FragThereAndBack', WHERE WHAT IT READS IS OF BULK AT MOST 1048576: true; the input reads as it did. -/
def fragThereAndBackUptoRow : OpenClaim := { program := "ytgapkphkcncgeaadoor", sum := "aee3bf84be3b163a53f79c06a847ba7701b65d6f0e9839461fc467f67981ce15", func := "quorate/quoratelaw09.FragThereAndBack", spec := "fragThereAndBack", named := ["quorate/wire.nibble"], apart := false, laid := [("quorate/wire.nibble", laid_quorate_wire_nibble)], narrowed := true }
def FragThereAndBackUptoSaid : Prop := fragThereAndBackUptoRow.holds Tryd.pinned (OpenSpec.upto fragThereAndBackSpec)

end Rows
end Go.Proofs.YtgapkphkcncgeaaDoor
