/-
  NARROWER THAN 'FOR EVERY INPUT', by the rows' own cells (each row's printed sentence says how): WireEncodes: laid · WireDecodes: laid · WireBurst: laid · WireBack: laid · WireCanon: laid.
  DERIVED. THE GIVEN ROWS OF THIS SEAT. 5 by the template 'for every input the law returns true; each argument reads behind the call as it read before'; 0 by the template 'total and deterministic' (their statements: YtffcepaegcllmaaDoorTotals.lean).
  GIVEN WITH THE SEED: the statements are not yours to turn. If you find one false, say at which input.
  Laid BY PROGRAM, IN A SANDBOX (cutbox-rows.mjs): the forced cells as the released guide's own fill.sh prints them over the translation d25c5fa00e17115b… (all of the seat's roots in one cut). By AI agents, Wed Nov 11 2026. No macro, syntax, notation, axiom, sorry.
-/
import Derived.Test.YtffcepaegcllmaaDoorChecked
import GoSem.Claim
import GoSem.ClaimJoined
import GoSem.ClaimMapViews
import Derived.JoinedTies
import Derived.KernelRfl
namespace Go.Proofs.YtffcepaegcllmaaDoor
/- THE CELL 'sum', in the pinned program and in every row, IS THE sha256 OF THE DUMP (.gsa) THAT YtffcepaegcllmaaDoorProg.lean LOADS. Nothing in Lean hashes anything: it is a label: what it is worth is what the hold of that sum in a sandbox is worth. -/
noncomputable def Tryd.pinned : Pinned := { name := "ytffcepaegcllmaadoor", sum := "d25c5fa00e17115b6a2155eb13546c098d74471c94c8aaf48ab7ead102ede39f", checked := Tryd.checked }
namespace Rows
def none {H : Type} : Left H := { results := [], args := [] }

/- WHAT THE LISTED PACKAGE-LEVEL VARIABLES READ AS WHEN THE CALL BEGINS. Each datum BY PROGRAM (the guide's laid-datum.mjs) off the statement by which the dump's own 'gosem.cut.vars' lays the variable. In a bare row this is a premise. The card (YtffcepaegcllmaaDoorCards.lean) ties it to the program's text. -/
def laid_quorate_wire_nibble {H : Type} : DataW H := .agg [.lit (.int .u32 0), .lit (.int .u32 498536548), .lit (.int .u32 997073096), .lit (.int .u32 651767980), .lit (.int .u32 1994146192), .lit (.int .u32 1802195444), .lit (.int .u32 1303535960), .lit (.int .u32 1342533948), .lit (.int .u32 3988292384), .lit (.int .u32 4027552580), .lit (.int .u32 3604390888), .lit (.int .u32 3412177804), .lit (.int .u32 2607071920), .lit (.int .u32 2262029012), .lit (.int .u32 2685067896), .lit (.int .u32 3183342108)]

/-- 'quoratelaw01.WireEncodes': WHATEVER THE INPUT: true; the input reads as it did. -/
def wireEncodesSpec : ChangeSpec := { name := "wireEncodes", fn := fun _ => fun
  | [d] => { results := [.lit (.bool true)], args := [d] }
  | _ => none }
def wireEncodesRow : OpenClaim := { program := "ytffcepaegcllmaadoor", sum := "d25c5fa00e17115b6a2155eb13546c098d74471c94c8aaf48ab7ead102ede39f", func := "quorate/quoratelaw01.WireEncodes", spec := "wireEncodes", named := ["quorate/wire.nibble"], apart := false, laid := [("quorate/wire.nibble", laid_quorate_wire_nibble)] }
def WireEncodesSaid : Prop := wireEncodesRow.holds Tryd.pinned (OpenSpec.ofChange wireEncodesSpec)

/-- ITS FALSE NEIGHBOUR: 'it returns false'. Refute it at one input. -/
def wireEncodesWrong : ChangeSpec := { name := "wireEncodes", fn := fun _ => fun
  | [d] => { results := [.lit (.bool false)], args := [d] }
  | _ => none }
def WireEncodesWrongFalsely : Prop := wireEncodesRow.holds Tryd.pinned (OpenSpec.ofChange wireEncodesWrong)

/-- 'quoratelaw01.WireDecodes': WHATEVER THE INPUT: true; the input reads as it did. -/
def wireDecodesSpec : ChangeSpec := { name := "wireDecodes", fn := fun _ => fun
  | [d] => { results := [.lit (.bool true)], args := [d] }
  | _ => none }
def wireDecodesRow : OpenClaim := { program := "ytffcepaegcllmaadoor", sum := "d25c5fa00e17115b6a2155eb13546c098d74471c94c8aaf48ab7ead102ede39f", func := "quorate/quoratelaw01.WireDecodes", spec := "wireDecodes", unfollowed := true, recurses := true, named := ["quorate/wire.nibble"], apart := false, laid := [("quorate/wire.nibble", laid_quorate_wire_nibble)] }
def WireDecodesSaid : Prop := wireDecodesRow.holds Tryd.pinned (OpenSpec.ofChange wireDecodesSpec)

/-- ITS FALSE NEIGHBOUR: 'it returns false'. Refute it at one input. -/
def wireDecodesWrong : ChangeSpec := { name := "wireDecodes", fn := fun _ => fun
  | [d] => { results := [.lit (.bool false)], args := [d] }
  | _ => none }
def WireDecodesWrongFalsely : Prop := wireDecodesRow.holds Tryd.pinned (OpenSpec.ofChange wireDecodesWrong)

/-- 'quoratelaw01.WireBurst': WHATEVER THE INPUT: true; the input reads as it did. -/
def wireBurstSpec : ChangeSpec := { name := "wireBurst", fn := fun _ => fun
  | [d1, d2, d3] => { results := [.lit (.bool true)], args := [d1, d2, d3] }
  | _ => none }
def wireBurstRow : OpenClaim := { program := "ytffcepaegcllmaadoor", sum := "d25c5fa00e17115b6a2155eb13546c098d74471c94c8aaf48ab7ead102ede39f", func := "quorate/quoratelaw01.WireBurst", spec := "wireBurst", unfollowed := true, recurses := true, named := ["quorate/wire.nibble"], apart := false, laid := [("quorate/wire.nibble", laid_quorate_wire_nibble)] }
def WireBurstSaid : Prop := wireBurstRow.holds Tryd.pinned (OpenSpec.ofChange wireBurstSpec)

/-- ITS FALSE NEIGHBOUR: 'it returns false'. Refute it at one input. -/
def wireBurstWrong : ChangeSpec := { name := "wireBurst", fn := fun _ => fun
  | [d1, d2, d3] => { results := [.lit (.bool false)], args := [d1, d2, d3] }
  | _ => none }
def WireBurstWrongFalsely : Prop := wireBurstRow.holds Tryd.pinned (OpenSpec.ofChange wireBurstWrong)

/-- 'quoratelaw01.WireBack': WHATEVER THE INPUT: true; the input reads as it did. -/
def wireBackSpec : ChangeSpec := { name := "wireBack", fn := fun _ => fun
  | [d] => { results := [.lit (.bool true)], args := [d] }
  | _ => none }
def wireBackRow : OpenClaim := { program := "ytffcepaegcllmaadoor", sum := "d25c5fa00e17115b6a2155eb13546c098d74471c94c8aaf48ab7ead102ede39f", func := "quorate/quoratelaw01.WireBack", spec := "wireBack", unfollowed := true, recurses := true, named := ["quorate/wire.nibble"], apart := false, laid := [("quorate/wire.nibble", laid_quorate_wire_nibble)] }
def WireBackSaid : Prop := wireBackRow.holds Tryd.pinned (OpenSpec.ofChange wireBackSpec)

/-- ITS FALSE NEIGHBOUR: 'it returns false'. Refute it at one input. -/
def wireBackWrong : ChangeSpec := { name := "wireBack", fn := fun _ => fun
  | [d] => { results := [.lit (.bool false)], args := [d] }
  | _ => none }
def WireBackWrongFalsely : Prop := wireBackRow.holds Tryd.pinned (OpenSpec.ofChange wireBackWrong)

/-- 'quoratelaw01.WireCanon': WHATEVER THE INPUT: true; the input reads as it did. -/
def wireCanonSpec : ChangeSpec := { name := "wireCanon", fn := fun _ => fun
  | [d] => { results := [.lit (.bool true)], args := [d] }
  | _ => none }
def wireCanonRow : OpenClaim := { program := "ytffcepaegcllmaadoor", sum := "d25c5fa00e17115b6a2155eb13546c098d74471c94c8aaf48ab7ead102ede39f", func := "quorate/quoratelaw01.WireCanon", spec := "wireCanon", unfollowed := true, recurses := true, named := ["quorate/wire.nibble"], apart := false, laid := [("quorate/wire.nibble", laid_quorate_wire_nibble)] }
def WireCanonSaid : Prop := wireCanonRow.holds Tryd.pinned (OpenSpec.ofChange wireCanonSpec)

/-- ITS FALSE NEIGHBOUR: 'it returns false'. Refute it at one input. -/
def wireCanonWrong : ChangeSpec := { name := "wireCanon", fn := fun _ => fun
  | [d] => { results := [.lit (.bool false)], args := [d] }
  | _ => none }
def WireCanonWrongFalsely : Prop := wireCanonRow.holds Tryd.pinned (OpenSpec.ofChange wireCanonWrong)

/- THE SECOND FORM. 'bulk': how many values and letters a reading holds, each counted each time it is reached (what is shared counts as often as it is met; a slice's spare places count too). A statement '..UptoSaid' is the law's where the arguments, and the package variables that the reading takes, are together of bulk at most 1048576: NARROWER than '..Said'. Prove '..Said' where nothing that the law and all that it calls make is longer than what came in: it says more and counts as full. Else prove '..UptoSaid'. A law counts once. -/
mutual
def uptoBulk {H : Type} : DataW H → Nat
  | .lit (.string bytes) => bytes.length + 1
  | .lit _ => 1
  | .nil => 1
  | .ptr d => uptoBulk d + 1
  | .slice elems spare => uptoBulkAll elems + uptoBulkAll spare + 1
  | .agg parts => uptoBulkAll parts + 1
  | .iface _ d => uptoBulk d + 1
  | .map entries => uptoBulkEntries entries + 1
  | .held _ => 1
def uptoBulkAll {H : Type} : List (DataW H) → Nat
  | [] => 0
  | d :: r => uptoBulk d + uptoBulkAll r
def uptoBulkEntries {H : Type} : List (Lit × DataW H) → Nat
  | [] => 0
  | x :: r => uptoBulkEntry x + uptoBulkEntries r
def uptoBulkEntry {H : Type} : Lit × DataW H → Nat
  | (.string bytes, d) => bytes.length + uptoBulk d + 1
  | (_, d) => uptoBulk d + 1
 end
def uptoSmall : (H : Type) → List (DataW H) → Bool := fun _ ds => decide (uptoBulkAll ds ≤ 1048576)
def OpenSpec.upto (s : _root_.Go.ChangeSpec) : _root_.Go.OpenSpec := { _root_.Go.OpenSpec.ofChange s with cond := some uptoSmall }

/-- 'quoratelaw01.WireEncodes', WHERE WHAT IT READS IS OF BULK AT MOST 1048576: true; the input reads as it did. -/
def wireEncodesUptoRow : OpenClaim := { program := "ytffcepaegcllmaadoor", sum := "d25c5fa00e17115b6a2155eb13546c098d74471c94c8aaf48ab7ead102ede39f", func := "quorate/quoratelaw01.WireEncodes", spec := "wireEncodes", named := ["quorate/wire.nibble"], apart := false, laid := [("quorate/wire.nibble", laid_quorate_wire_nibble)], narrowed := true }
def WireEncodesUptoSaid : Prop := wireEncodesUptoRow.holds Tryd.pinned (OpenSpec.upto wireEncodesSpec)

/-- 'quoratelaw01.WireDecodes', WHERE WHAT IT READS IS OF BULK AT MOST 1048576: true; the input reads as it did. -/
def wireDecodesUptoRow : OpenClaim := { program := "ytffcepaegcllmaadoor", sum := "d25c5fa00e17115b6a2155eb13546c098d74471c94c8aaf48ab7ead102ede39f", func := "quorate/quoratelaw01.WireDecodes", spec := "wireDecodes", unfollowed := true, recurses := true, named := ["quorate/wire.nibble"], apart := false, laid := [("quorate/wire.nibble", laid_quorate_wire_nibble)], narrowed := true }
def WireDecodesUptoSaid : Prop := wireDecodesUptoRow.holds Tryd.pinned (OpenSpec.upto wireDecodesSpec)

/-- 'quoratelaw01.WireBurst', WHERE WHAT IT READS IS OF BULK AT MOST 1048576: true; the input reads as it did. -/
def wireBurstUptoRow : OpenClaim := { program := "ytffcepaegcllmaadoor", sum := "d25c5fa00e17115b6a2155eb13546c098d74471c94c8aaf48ab7ead102ede39f", func := "quorate/quoratelaw01.WireBurst", spec := "wireBurst", unfollowed := true, recurses := true, named := ["quorate/wire.nibble"], apart := false, laid := [("quorate/wire.nibble", laid_quorate_wire_nibble)], narrowed := true }
def WireBurstUptoSaid : Prop := wireBurstUptoRow.holds Tryd.pinned (OpenSpec.upto wireBurstSpec)

/-- 'quoratelaw01.WireBack', WHERE WHAT IT READS IS OF BULK AT MOST 1048576: true; the input reads as it did. -/
def wireBackUptoRow : OpenClaim := { program := "ytffcepaegcllmaadoor", sum := "d25c5fa00e17115b6a2155eb13546c098d74471c94c8aaf48ab7ead102ede39f", func := "quorate/quoratelaw01.WireBack", spec := "wireBack", unfollowed := true, recurses := true, named := ["quorate/wire.nibble"], apart := false, laid := [("quorate/wire.nibble", laid_quorate_wire_nibble)], narrowed := true }
def WireBackUptoSaid : Prop := wireBackUptoRow.holds Tryd.pinned (OpenSpec.upto wireBackSpec)

/-- 'quoratelaw01.WireCanon', WHERE WHAT IT READS IS OF BULK AT MOST 1048576: true; the input reads as it did. -/
def wireCanonUptoRow : OpenClaim := { program := "ytffcepaegcllmaadoor", sum := "d25c5fa00e17115b6a2155eb13546c098d74471c94c8aaf48ab7ead102ede39f", func := "quorate/quoratelaw01.WireCanon", spec := "wireCanon", unfollowed := true, recurses := true, named := ["quorate/wire.nibble"], apart := false, laid := [("quorate/wire.nibble", laid_quorate_wire_nibble)], narrowed := true }
def WireCanonUptoSaid : Prop := wireCanonUptoRow.holds Tryd.pinned (OpenSpec.upto wireCanonSpec)

end Rows
end Go.Proofs.YtffcepaegcllmaaDoor
