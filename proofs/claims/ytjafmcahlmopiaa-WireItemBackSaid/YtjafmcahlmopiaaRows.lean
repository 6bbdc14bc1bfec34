/-
  No cell of these rows narrows 'for every input' (looked for: loops, veiled, ifaces, maps, wideKeys, modest, calm, conditions, laid).
  DERIVED. THE GIVEN ROWS OF THIS SEAT. 8 by the template 'for every input the law returns true; each argument reads behind the call as it read before'; 0 by the template 'total and deterministic' (their statements: YtjafmcahlmopiaaTotals.lean).
  GIVEN WITH THE SEED: the statements are not yours to turn. If you find one false, say at which input.
  Laid BY PROGRAM, IN A SANDBOX (cutbox-rows.mjs): the forced cells as the released guide's own fill.sh prints them over the translation 1a9b5c2febdfcaff… (all of the seat's roots in one cut). By AI agents, Wed Nov 11 2026. No macro, syntax, notation, axiom, sorry.
-/
import Derived.Test.YtjafmcahlmopiaaChecked
import GoSem.Claim
import GoSem.ClaimJoined
import GoSem.ClaimMapViews
import Derived.JoinedTies
import Derived.KernelRfl
namespace Go.Proofs.Ytjafmcahlmopiaa
/- THE CELL 'sum', in the pinned program and in every row, IS THE sha256 OF THE DUMP (.gsa) THAT YtjafmcahlmopiaaProg.lean LOADS. Nothing in Lean hashes anything: it is a label: what it is worth is what the hold of that sum in a sandbox is worth. -/
noncomputable def Try.pinned : Pinned := { name := "ytjafmcahlmopiaa", sum := "1a9b5c2febdfcaff2ee5808e87f68bd420675ab0f4183b5a826dc3a1e018807d", checked := Try.checked }
namespace Rows
def none {H : Type} : Left H := { results := [], args := [] }

/-- 'quoratelaw01.WireNames': WHATEVER THE INPUT: true; the input reads as it did. -/
def wireNamesSpec : ChangeSpec := { name := "wireNames", fn := fun _ => fun
  | [] => { results := [.lit (.bool true)], args := [] }
  | _ => none }
def wireNamesRow : OpenClaim := { program := "ytjafmcahlmopiaa", sum := "1a9b5c2febdfcaff2ee5808e87f68bd420675ab0f4183b5a826dc3a1e018807d", func := "quorate/quoratelaw01.WireNames", spec := "wireNames", apart := false }
def WireNamesSaid : Prop := wireNamesRow.holds Try.pinned (OpenSpec.ofChange wireNamesSpec)

/-- ITS FALSE NEIGHBOUR: 'it returns false'. Refute it at one input. -/
def wireNamesWrong : ChangeSpec := { name := "wireNames", fn := fun _ => fun
  | [] => { results := [.lit (.bool false)], args := [] }
  | _ => none }
def WireNamesWrongFalsely : Prop := wireNamesRow.holds Try.pinned (OpenSpec.ofChange wireNamesWrong)

/-- 'quoratelaw01.WirePuts': WHATEVER THE INPUT: true; the input reads as it did. -/
def wirePutsSpec : ChangeSpec := { name := "wirePuts", fn := fun _ => fun
  | [d1, d2, d3] => { results := [.lit (.bool true)], args := [d1, d2, d3] }
  | _ => none }
def wirePutsRow : OpenClaim := { program := "ytjafmcahlmopiaa", sum := "1a9b5c2febdfcaff2ee5808e87f68bd420675ab0f4183b5a826dc3a1e018807d", func := "quorate/quoratelaw01.WirePuts", spec := "wirePuts", apart := false }
def WirePutsSaid : Prop := wirePutsRow.holds Try.pinned (OpenSpec.ofChange wirePutsSpec)

/-- ITS FALSE NEIGHBOUR: 'it returns false'. Refute it at one input. -/
def wirePutsWrong : ChangeSpec := { name := "wirePuts", fn := fun _ => fun
  | [d1, d2, d3] => { results := [.lit (.bool false)], args := [d1, d2, d3] }
  | _ => none }
def WirePutsWrongFalsely : Prop := wirePutsRow.holds Try.pinned (OpenSpec.ofChange wirePutsWrong)

/-- 'quoratelaw01.WireTakes': WHATEVER THE INPUT: true; the input reads as it did. -/
def wireTakesSpec : ChangeSpec := { name := "wireTakes", fn := fun _ => fun
  | [d1, d2] => { results := [.lit (.bool true)], args := [d1, d2] }
  | _ => none }
def wireTakesRow : OpenClaim := { program := "ytjafmcahlmopiaa", sum := "1a9b5c2febdfcaff2ee5808e87f68bd420675ab0f4183b5a826dc3a1e018807d", func := "quorate/quoratelaw01.WireTakes", spec := "wireTakes", apart := false }
def WireTakesSaid : Prop := wireTakesRow.holds Try.pinned (OpenSpec.ofChange wireTakesSpec)

/-- ITS FALSE NEIGHBOUR: 'it returns false'. Refute it at one input. -/
def wireTakesWrong : ChangeSpec := { name := "wireTakes", fn := fun _ => fun
  | [d1, d2] => { results := [.lit (.bool false)], args := [d1, d2] }
  | _ => none }
def WireTakesWrongFalsely : Prop := wireTakesRow.holds Try.pinned (OpenSpec.ofChange wireTakesWrong)

/-- 'quoratelaw01.WireInARow': WHATEVER THE INPUT: true; the input reads as it did. -/
def wireInARowSpec : ChangeSpec := { name := "wireInARow", fn := fun _ => fun
  | [d] => { results := [.lit (.bool true)], args := [d] }
  | _ => none }
def wireInARowRow : OpenClaim := { program := "ytjafmcahlmopiaa", sum := "1a9b5c2febdfcaff2ee5808e87f68bd420675ab0f4183b5a826dc3a1e018807d", func := "quorate/quoratelaw01.WireInARow", spec := "wireInARow", apart := false }
def WireInARowSaid : Prop := wireInARowRow.holds Try.pinned (OpenSpec.ofChange wireInARowSpec)

/-- ITS FALSE NEIGHBOUR: 'it returns false'. Refute it at one input. -/
def wireInARowWrong : ChangeSpec := { name := "wireInARow", fn := fun _ => fun
  | [d] => { results := [.lit (.bool false)], args := [d] }
  | _ => none }
def WireInARowWrongFalsely : Prop := wireInARowRow.holds Try.pinned (OpenSpec.ofChange wireInARowWrong)

/-- 'quoratelaw01.WireItems': WHATEVER THE INPUT: true; the input reads as it did. -/
def wireItemsSpec : ChangeSpec := { name := "wireItems", fn := fun _ => fun
  | [d] => { results := [.lit (.bool true)], args := [d] }
  | _ => none }
def wireItemsRow : OpenClaim := { program := "ytjafmcahlmopiaa", sum := "1a9b5c2febdfcaff2ee5808e87f68bd420675ab0f4183b5a826dc3a1e018807d", func := "quorate/quoratelaw01.WireItems", spec := "wireItems", apart := false }
def WireItemsSaid : Prop := wireItemsRow.holds Try.pinned (OpenSpec.ofChange wireItemsSpec)

/-- ITS FALSE NEIGHBOUR: 'it returns false'. Refute it at one input. -/
def wireItemsWrong : ChangeSpec := { name := "wireItems", fn := fun _ => fun
  | [d] => { results := [.lit (.bool false)], args := [d] }
  | _ => none }
def WireItemsWrongFalsely : Prop := wireItemsRow.holds Try.pinned (OpenSpec.ofChange wireItemsWrong)

/-- 'quoratelaw01.WireItemTexts': WHATEVER THE INPUT: true; the input reads as it did. -/
def wireItemTextsSpec : ChangeSpec := { name := "wireItemTexts", fn := fun _ => fun
  | [d] => { results := [.lit (.bool true)], args := [d] }
  | _ => none }
def wireItemTextsRow : OpenClaim := { program := "ytjafmcahlmopiaa", sum := "1a9b5c2febdfcaff2ee5808e87f68bd420675ab0f4183b5a826dc3a1e018807d", func := "quorate/quoratelaw01.WireItemTexts", spec := "wireItemTexts", unfollowed := true, recurses := true, apart := false }
def WireItemTextsSaid : Prop := wireItemTextsRow.holds Try.pinned (OpenSpec.ofChange wireItemTextsSpec)

/-- ITS FALSE NEIGHBOUR: 'it returns false'. Refute it at one input. -/
def wireItemTextsWrong : ChangeSpec := { name := "wireItemTexts", fn := fun _ => fun
  | [d] => { results := [.lit (.bool false)], args := [d] }
  | _ => none }
def WireItemTextsWrongFalsely : Prop := wireItemTextsRow.holds Try.pinned (OpenSpec.ofChange wireItemTextsWrong)

/-- 'quoratelaw01.WireChecks': WHATEVER THE INPUT: true; the input reads as it did. -/
def wireChecksSpec : ChangeSpec := { name := "wireChecks", fn := fun _ => fun
  | [d] => { results := [.lit (.bool true)], args := [d] }
  | _ => none }
def wireChecksRow : OpenClaim := { program := "ytjafmcahlmopiaa", sum := "1a9b5c2febdfcaff2ee5808e87f68bd420675ab0f4183b5a826dc3a1e018807d", func := "quorate/quoratelaw01.WireChecks", spec := "wireChecks", apart := false }
def WireChecksSaid : Prop := wireChecksRow.holds Try.pinned (OpenSpec.ofChange wireChecksSpec)

/-- ITS FALSE NEIGHBOUR: 'it returns false'. Refute it at one input. -/
def wireChecksWrong : ChangeSpec := { name := "wireChecks", fn := fun _ => fun
  | [d] => { results := [.lit (.bool false)], args := [d] }
  | _ => none }
def WireChecksWrongFalsely : Prop := wireChecksRow.holds Try.pinned (OpenSpec.ofChange wireChecksWrong)

/-- 'quoratelaw01.WireItemBack': WHATEVER THE INPUT: true; the input reads as it did. -/
def wireItemBackSpec : ChangeSpec := { name := "wireItemBack", fn := fun _ => fun
  | [d1, d2] => { results := [.lit (.bool true)], args := [d1, d2] }
  | _ => none }
def wireItemBackRow : OpenClaim := { program := "ytjafmcahlmopiaa", sum := "1a9b5c2febdfcaff2ee5808e87f68bd420675ab0f4183b5a826dc3a1e018807d", func := "quorate/quoratelaw01.WireItemBack", spec := "wireItemBack", unfollowed := true, recurses := true, apart := false }
def WireItemBackSaid : Prop := wireItemBackRow.holds Try.pinned (OpenSpec.ofChange wireItemBackSpec)

/-- ITS FALSE NEIGHBOUR: 'it returns false'. Refute it at one input. -/
def wireItemBackWrong : ChangeSpec := { name := "wireItemBack", fn := fun _ => fun
  | [d1, d2] => { results := [.lit (.bool false)], args := [d1, d2] }
  | _ => none }
def WireItemBackWrongFalsely : Prop := wireItemBackRow.holds Try.pinned (OpenSpec.ofChange wireItemBackWrong)

/- THE SECOND FORM. 'bulk': how many values and letters a reading holds, each counted each time it is reached (what is shared counts as often as it is met; a slice's spare places count too). A statement '..UptoSaid' is the law's where the arguments, and the package variables that the reading takes, are together of bulk at most 1048576: NARROWER than '..Said'. Prove '..Said' where nothing that the law and all that it calls make is longer than what came in: it says more and counts as full. Else prove '..UptoSaid'. A law counts once. -/
mutual
def uptoBulk {H : Type} : DataW H → Nat
  | .lit (.string bytes) => bytes.length + 1
  | .lit _ => 1
  | .nil => 1
  | .ptr d => uptoBulk d + 1
  | .slice elems spare => uptoBulkAll elems + uptoBulkAll spare + 1
  | .agg parts => uptoBulkAll parts + 1
  | .iface _ d => uptoBulk d + 1
  | .map entries => uptoBulkEntries entries + 1
  | .held _ => 1
def uptoBulkAll {H : Type} : List (DataW H) → Nat
  | [] => 0
  | d :: r => uptoBulk d + uptoBulkAll r
def uptoBulkEntries {H : Type} : List (Lit × DataW H) → Nat
  | [] => 0
  | x :: r => uptoBulkEntry x + uptoBulkEntries r
def uptoBulkEntry {H : Type} : Lit × DataW H → Nat
  | (.string bytes, d) => bytes.length + uptoBulk d + 1
  | (_, d) => uptoBulk d + 1
 end
def uptoSmall : (H : Type) → List (DataW H) → Bool := fun _ ds => decide (uptoBulkAll ds ≤ 1048576)
def OpenSpec.upto (s : _root_.Go.ChangeSpec) : _root_.Go.OpenSpec := { _root_.Go.OpenSpec.ofChange s with cond := some uptoSmall }

/-- 'quoratelaw01.WireNames', WHERE WHAT IT READS IS OF BULK AT MOST 1048576: true; the input reads as it did. -/
def wireNamesUptoRow : OpenClaim := { program := "ytjafmcahlmopiaa", sum := "1a9b5c2febdfcaff2ee5808e87f68bd420675ab0f4183b5a826dc3a1e018807d", func := "quorate/quoratelaw01.WireNames", spec := "wireNames", apart := false, narrowed := true }
def WireNamesUptoSaid : Prop := wireNamesUptoRow.holds Try.pinned (OpenSpec.upto wireNamesSpec)

/-- 'quoratelaw01.WirePuts', WHERE WHAT IT READS IS OF BULK AT MOST 1048576: true; the input reads as it did. -/
def wirePutsUptoRow : OpenClaim := { program := "ytjafmcahlmopiaa", sum := "1a9b5c2febdfcaff2ee5808e87f68bd420675ab0f4183b5a826dc3a1e018807d", func := "quorate/quoratelaw01.WirePuts", spec := "wirePuts", apart := false, narrowed := true }
def WirePutsUptoSaid : Prop := wirePutsUptoRow.holds Try.pinned (OpenSpec.upto wirePutsSpec)

/-- 'quoratelaw01.WireTakes', WHERE WHAT IT READS IS OF BULK AT MOST 1048576: true; the input reads as it did. -/
def wireTakesUptoRow : OpenClaim := { program := "ytjafmcahlmopiaa", sum := "1a9b5c2febdfcaff2ee5808e87f68bd420675ab0f4183b5a826dc3a1e018807d", func := "quorate/quoratelaw01.WireTakes", spec := "wireTakes", apart := false, narrowed := true }
def WireTakesUptoSaid : Prop := wireTakesUptoRow.holds Try.pinned (OpenSpec.upto wireTakesSpec)

/-- 'quoratelaw01.WireInARow', WHERE WHAT IT READS IS OF BULK AT MOST 1048576: true; the input reads as it did. -/
def wireInARowUptoRow : OpenClaim := { program := "ytjafmcahlmopiaa", sum := "1a9b5c2febdfcaff2ee5808e87f68bd420675ab0f4183b5a826dc3a1e018807d", func := "quorate/quoratelaw01.WireInARow", spec := "wireInARow", apart := false, narrowed := true }
def WireInARowUptoSaid : Prop := wireInARowUptoRow.holds Try.pinned (OpenSpec.upto wireInARowSpec)

/-- 'quoratelaw01.WireItems', WHERE WHAT IT READS IS OF BULK AT MOST 1048576: true; the input reads as it did. -/
def wireItemsUptoRow : OpenClaim := { program := "ytjafmcahlmopiaa", sum := "1a9b5c2febdfcaff2ee5808e87f68bd420675ab0f4183b5a826dc3a1e018807d", func := "quorate/quoratelaw01.WireItems", spec := "wireItems", apart := false, narrowed := true }
def WireItemsUptoSaid : Prop := wireItemsUptoRow.holds Try.pinned (OpenSpec.upto wireItemsSpec)

/-- 'quoratelaw01.WireItemTexts', WHERE WHAT IT READS IS OF BULK AT MOST 1048576: true; the input reads as it did. -/
def wireItemTextsUptoRow : OpenClaim := { program := "ytjafmcahlmopiaa", sum := "1a9b5c2febdfcaff2ee5808e87f68bd420675ab0f4183b5a826dc3a1e018807d", func := "quorate/quoratelaw01.WireItemTexts", spec := "wireItemTexts", unfollowed := true, recurses := true, apart := false, narrowed := true }
def WireItemTextsUptoSaid : Prop := wireItemTextsUptoRow.holds Try.pinned (OpenSpec.upto wireItemTextsSpec)

/-- 'quoratelaw01.WireChecks', WHERE WHAT IT READS IS OF BULK AT MOST 1048576: true; the input reads as it did. -/
def wireChecksUptoRow : OpenClaim := { program := "ytjafmcahlmopiaa", sum := "1a9b5c2febdfcaff2ee5808e87f68bd420675ab0f4183b5a826dc3a1e018807d", func := "quorate/quoratelaw01.WireChecks", spec := "wireChecks", apart := false, narrowed := true }
def WireChecksUptoSaid : Prop := wireChecksUptoRow.holds Try.pinned (OpenSpec.upto wireChecksSpec)

/-- 'quoratelaw01.WireItemBack', WHERE WHAT IT READS IS OF BULK AT MOST 1048576: true; the input reads as it did. -/
def wireItemBackUptoRow : OpenClaim := { program := "ytjafmcahlmopiaa", sum := "1a9b5c2febdfcaff2ee5808e87f68bd420675ab0f4183b5a826dc3a1e018807d", func := "quorate/quoratelaw01.WireItemBack", spec := "wireItemBack", unfollowed := true, recurses := true, apart := false, narrowed := true }
def WireItemBackUptoSaid : Prop := wireItemBackUptoRow.holds Try.pinned (OpenSpec.upto wireItemBackSpec)

end Rows
end Go.Proofs.Ytjafmcahlmopiaa
