/-
  NARROWER THAN 'FOR EVERY INPUT', by the rows' own cells (each row's printed sentence says how): JournalEach: laid · JournalOpens: laid · JournalAll: laid · JournalBetween: laid · JournalEveryUnit: laid · JournalOwn: laid · JournalDamage: laid.
  DERIVED. THE GIVEN ROWS OF THIS SEAT. 7 by the template 'for every input the law returns true; each argument reads behind the call as it read before'; 0 by the template 'total and deterministic' (their statements: YtpkdalpjfcopbaaDoorTotals.lean).
  GIVEN WITH THE SEED: the statements are not yours to turn. If you find one false, say at which input.
  Laid BY PROGRAM, IN A SANDBOX (cutbox-rows.mjs): the forced cells as the released guide's own fill.sh prints them over the translation 5b891f11c7b6c959… (all of the seat's roots in one cut). By AI agents, Wed Nov 11 2026. No macro, syntax, notation, axiom, sorry.
-/
import Derived.Test.YtpkdalpjfcopbaaDoorChecked
import GoSem.Claim
import GoSem.ClaimJoined
import GoSem.ClaimMapViews
import Derived.JoinedTies
import Derived.KernelRfl
namespace Go.Proofs.YtpkdalpjfcopbaaDoor
/- THE CELL 'sum', in the pinned program and in every row, IS THE sha256 OF THE DUMP (.gsa) THAT YtpkdalpjfcopbaaDoorProg.lean LOADS. Nothing in Lean hashes anything: it is a label: what it is worth is what the hold of that sum in a sandbox is worth. -/
noncomputable def Tryd.pinned : Pinned := { name := "ytpkdalpjfcopbaadoor", sum := "5b891f11c7b6c959b3433d27a18f4b99afa3a85ff1488e2a325da3c33cbff2f8", checked := Tryd.checked }
namespace Rows
def none {H : Type} : Left H := { results := [], args := [] }

/- WHAT THE LISTED PACKAGE-LEVEL VARIABLES READ AS WHEN THE CALL BEGINS. Each datum BY PROGRAM (the guide's laid-datum.mjs) off the statement by which the dump's own 'gosem.cut.vars' lays the variable. In a bare row this is a premise. The card (YtpkdalpjfcopbaaDoorCards.lean) ties it to the program's text. -/
def laid_quorate_wire_nibble {H : Type} : DataW H := .agg [.lit (.int .u32 0), .lit (.int .u32 498536548), .lit (.int .u32 997073096), .lit (.int .u32 651767980), .lit (.int .u32 1994146192), .lit (.int .u32 1802195444), .lit (.int .u32 1303535960), .lit (.int .u32 1342533948), .lit (.int .u32 3988292384), .lit (.int .u32 4027552580), .lit (.int .u32 3604390888), .lit (.int .u32 3412177804), .lit (.int .u32 2607071920), .lit (.int .u32 2262029012), .lit (.int .u32 2685067896), .lit (.int .u32 3183342108)]

/-- 'quoratelaw12.JournalEach': WHATEVER THE INPUT: true; the input reads as it did. -/
def journalEachSpec : ChangeSpec := { name := "journalEach", fn := fun _ => fun
  | [d1, d2] => { results := [.lit (.bool true)], args := [d1, d2] }
  | _ => none }
def journalEachRow : OpenClaim := { program := "ytpkdalpjfcopbaadoor", sum := "5b891f11c7b6c959b3433d27a18f4b99afa3a85ff1488e2a325da3c33cbff2f8", func := "quorate/quoratelaw12.JournalEach", spec := "journalEach", unfollowed := true, recurses := true, named := ["quorate/wire.nibble"], apart := false, laid := [("quorate/wire.nibble", laid_quorate_wire_nibble)] }
def JournalEachSaid : Prop := journalEachRow.holds Tryd.pinned (OpenSpec.ofChange journalEachSpec)

/-- ITS FALSE NEIGHBOUR: 'it returns false'. Refute it at one input. -/
def journalEachWrong : ChangeSpec := { name := "journalEach", fn := fun _ => fun
  | [d1, d2] => { results := [.lit (.bool false)], args := [d1, d2] }
  | _ => none }
def JournalEachWrongFalsely : Prop := journalEachRow.holds Tryd.pinned (OpenSpec.ofChange journalEachWrong)

/-- 'quoratelaw12.JournalOpens': WHATEVER THE INPUT: true; the input reads as it did. -/
def journalOpensSpec : ChangeSpec := { name := "journalOpens", fn := fun _ => fun
  | [d1, d2] => { results := [.lit (.bool true)], args := [d1, d2] }
  | _ => none }
def journalOpensRow : OpenClaim := { program := "ytpkdalpjfcopbaadoor", sum := "5b891f11c7b6c959b3433d27a18f4b99afa3a85ff1488e2a325da3c33cbff2f8", func := "quorate/quoratelaw12.JournalOpens", spec := "journalOpens", unfollowed := true, recurses := true, named := ["quorate/wire.nibble"], apart := false, laid := [("quorate/wire.nibble", laid_quorate_wire_nibble)] }
def JournalOpensSaid : Prop := journalOpensRow.holds Tryd.pinned (OpenSpec.ofChange journalOpensSpec)

/-- ITS FALSE NEIGHBOUR: 'it returns false'. Refute it at one input. -/
def journalOpensWrong : ChangeSpec := { name := "journalOpens", fn := fun _ => fun
  | [d1, d2] => { results := [.lit (.bool false)], args := [d1, d2] }
  | _ => none }
def JournalOpensWrongFalsely : Prop := journalOpensRow.holds Tryd.pinned (OpenSpec.ofChange journalOpensWrong)

/-- 'quoratelaw12.JournalAll': WHATEVER THE INPUT: true; the input reads as it did. -/
def journalAllSpec : ChangeSpec := { name := "journalAll", fn := fun _ => fun
  | [d] => { results := [.lit (.bool true)], args := [d] }
  | _ => none }
def journalAllRow : OpenClaim := { program := "ytpkdalpjfcopbaadoor", sum := "5b891f11c7b6c959b3433d27a18f4b99afa3a85ff1488e2a325da3c33cbff2f8", func := "quorate/quoratelaw12.JournalAll", spec := "journalAll", unfollowed := true, recurses := true, named := ["quorate/wire.nibble"], apart := false, laid := [("quorate/wire.nibble", laid_quorate_wire_nibble)] }
def JournalAllSaid : Prop := journalAllRow.holds Tryd.pinned (OpenSpec.ofChange journalAllSpec)

/-- ITS FALSE NEIGHBOUR: 'it returns false'. Refute it at one input. -/
def journalAllWrong : ChangeSpec := { name := "journalAll", fn := fun _ => fun
  | [d] => { results := [.lit (.bool false)], args := [d] }
  | _ => none }
def JournalAllWrongFalsely : Prop := journalAllRow.holds Tryd.pinned (OpenSpec.ofChange journalAllWrong)

/-- 'quoratelaw12.JournalBetween': WHATEVER THE INPUT: true; the input reads as it did. -/
def journalBetweenSpec : ChangeSpec := { name := "journalBetween", fn := fun _ => fun
  | [d] => { results := [.lit (.bool true)], args := [d] }
  | _ => none }
def journalBetweenRow : OpenClaim := { program := "ytpkdalpjfcopbaadoor", sum := "5b891f11c7b6c959b3433d27a18f4b99afa3a85ff1488e2a325da3c33cbff2f8", func := "quorate/quoratelaw12.JournalBetween", spec := "journalBetween", unfollowed := true, recurses := true, named := ["quorate/wire.nibble"], apart := false, laid := [("quorate/wire.nibble", laid_quorate_wire_nibble)] }
def JournalBetweenSaid : Prop := journalBetweenRow.holds Tryd.pinned (OpenSpec.ofChange journalBetweenSpec)

/-- ITS FALSE NEIGHBOUR: 'it returns false'. Refute it at one input. -/
def journalBetweenWrong : ChangeSpec := { name := "journalBetween", fn := fun _ => fun
  | [d] => { results := [.lit (.bool false)], args := [d] }
  | _ => none }
def JournalBetweenWrongFalsely : Prop := journalBetweenRow.holds Tryd.pinned (OpenSpec.ofChange journalBetweenWrong)

/-- 'quoratelaw12.JournalEveryUnit': WHATEVER THE INPUT: true; the input reads as it did. -/
def journalEveryUnitSpec : ChangeSpec := { name := "journalEveryUnit", fn := fun _ => fun
  | [d1, d2] => { results := [.lit (.bool true)], args := [d1, d2] }
  | _ => none }
def journalEveryUnitRow : OpenClaim := { program := "ytpkdalpjfcopbaadoor", sum := "5b891f11c7b6c959b3433d27a18f4b99afa3a85ff1488e2a325da3c33cbff2f8", func := "quorate/quoratelaw12.JournalEveryUnit", spec := "journalEveryUnit", unfollowed := true, recurses := true, named := ["quorate/wire.nibble"], apart := false, laid := [("quorate/wire.nibble", laid_quorate_wire_nibble)] }
def JournalEveryUnitSaid : Prop := journalEveryUnitRow.holds Tryd.pinned (OpenSpec.ofChange journalEveryUnitSpec)

/-- ITS FALSE NEIGHBOUR: 'it returns false'. Refute it at one input. -/
def journalEveryUnitWrong : ChangeSpec := { name := "journalEveryUnit", fn := fun _ => fun
  | [d1, d2] => { results := [.lit (.bool false)], args := [d1, d2] }
  | _ => none }
def JournalEveryUnitWrongFalsely : Prop := journalEveryUnitRow.holds Tryd.pinned (OpenSpec.ofChange journalEveryUnitWrong)

/-- 'quoratelaw12.JournalOwn': WHATEVER THE INPUT: true; the input reads as it did. -/
def journalOwnSpec : ChangeSpec := { name := "journalOwn", fn := fun _ => fun
  | [d] => { results := [.lit (.bool true)], args := [d] }
  | _ => none }
def journalOwnRow : OpenClaim := { program := "ytpkdalpjfcopbaadoor", sum := "5b891f11c7b6c959b3433d27a18f4b99afa3a85ff1488e2a325da3c33cbff2f8", func := "quorate/quoratelaw12.JournalOwn", spec := "journalOwn", unfollowed := true, recurses := true, named := ["quorate/wire.nibble"], apart := false, laid := [("quorate/wire.nibble", laid_quorate_wire_nibble)] }
def JournalOwnSaid : Prop := journalOwnRow.holds Tryd.pinned (OpenSpec.ofChange journalOwnSpec)

/-- ITS FALSE NEIGHBOUR: 'it returns false'. Refute it at one input. -/
def journalOwnWrong : ChangeSpec := { name := "journalOwn", fn := fun _ => fun
  | [d] => { results := [.lit (.bool false)], args := [d] }
  | _ => none }
def JournalOwnWrongFalsely : Prop := journalOwnRow.holds Tryd.pinned (OpenSpec.ofChange journalOwnWrong)

/-- 'quoratelaw12.JournalDamage': WHATEVER THE INPUT: true; the input reads as it did. -/
def journalDamageSpec : ChangeSpec := { name := "journalDamage", fn := fun _ => fun
  | [d1, d2, d3] => { results := [.lit (.bool true)], args := [d1, d2, d3] }
  | _ => none }
def journalDamageRow : OpenClaim := { program := "ytpkdalpjfcopbaadoor", sum := "5b891f11c7b6c959b3433d27a18f4b99afa3a85ff1488e2a325da3c33cbff2f8", func := "quorate/quoratelaw12.JournalDamage", spec := "journalDamage", unfollowed := true, recurses := true, named := ["quorate/wire.nibble"], apart := false, laid := [("quorate/wire.nibble", laid_quorate_wire_nibble)] }
def JournalDamageSaid : Prop := journalDamageRow.holds Tryd.pinned (OpenSpec.ofChange journalDamageSpec)

/-- ITS FALSE NEIGHBOUR: 'it returns false'. Refute it at one input. -/
def journalDamageWrong : ChangeSpec := { name := "journalDamage", fn := fun _ => fun
  | [d1, d2, d3] => { results := [.lit (.bool false)], args := [d1, d2, d3] }
  | _ => none }
def JournalDamageWrongFalsely : Prop := journalDamageRow.holds Tryd.pinned (OpenSpec.ofChange journalDamageWrong)

/- THE SECOND FORM. 'bulk': how many values and letters a reading holds, each counted each time it is reached (what is shared counts as often as it is met; a slice's spare places count too). A statement '..UptoSaid' is the law's where the arguments, and the package variables that the reading takes, are together of bulk at most 1048576: NARROWER than '..Said'. Prove '..Said' where nothing that the law and all that it calls make is longer than what came in: it says more and counts as full. Else prove '..UptoSaid'. A law counts once. -/
mutual
def uptoBulk {H : Type} : DataW H → Nat
  | .lit (.string bytes) => bytes.length + 1
  | .lit _ => 1
  | .nil => 1
  | .ptr d => uptoBulk d + 1
  | .slice elems spare => uptoBulkAll elems + uptoBulkAll spare + 1
  | .agg parts => uptoBulkAll parts + 1
  | .iface _ d => uptoBulk d + 1
  | .map entries => uptoBulkEntries entries + 1
  | .held _ => 1
def uptoBulkAll {H : Type} : List (DataW H) → Nat
  | [] => 0
  | d :: r => uptoBulk d + uptoBulkAll r
def uptoBulkEntries {H : Type} : List (Lit × DataW H) → Nat
  | [] => 0
  | x :: r => uptoBulkEntry x + uptoBulkEntries r
def uptoBulkEntry {H : Type} : Lit × DataW H → Nat
  | (.string bytes, d) => bytes.length + uptoBulk d + 1
  | (_, d) => uptoBulk d + 1
 end
def uptoSmall : (H : Type) → List (DataW H) → Bool := fun _ ds => decide (uptoBulkAll ds ≤ 1048576)
def OpenSpec.upto (s : _root_.Go.ChangeSpec) : _root_.Go.OpenSpec := { _root_.Go.OpenSpec.ofChange s with cond := some uptoSmall }

/-- 'quoratelaw12.JournalEach', WHERE WHAT IT READS IS OF BULK AT MOST 1048576: true; the input reads as it did. -/
def journalEachUptoRow : OpenClaim := { program := "ytpkdalpjfcopbaadoor", sum := "5b891f11c7b6c959b3433d27a18f4b99afa3a85ff1488e2a325da3c33cbff2f8", func := "quorate/quoratelaw12.JournalEach", spec := "journalEach", unfollowed := true, recurses := true, named := ["quorate/wire.nibble"], apart := false, laid := [("quorate/wire.nibble", laid_quorate_wire_nibble)], narrowed := true }
def JournalEachUptoSaid : Prop := journalEachUptoRow.holds Tryd.pinned (OpenSpec.upto journalEachSpec)

/-- 'quoratelaw12.JournalOpens', WHERE WHAT IT READS IS OF BULK AT MOST 1048576: true; the input reads as it did. -/
def journalOpensUptoRow : OpenClaim := { program := "ytpkdalpjfcopbaadoor", sum := "5b891f11c7b6c959b3433d27a18f4b99afa3a85ff1488e2a325da3c33cbff2f8", func := "quorate/quoratelaw12.JournalOpens", spec := "journalOpens", unfollowed := true, recurses := true, named := ["quorate/wire.nibble"], apart := false, laid := [("quorate/wire.nibble", laid_quorate_wire_nibble)], narrowed := true }
def JournalOpensUptoSaid : Prop := journalOpensUptoRow.holds Tryd.pinned (OpenSpec.upto journalOpensSpec)

/-- 'quoratelaw12.JournalAll', WHERE WHAT IT READS IS OF BULK AT MOST 1048576: true; the input reads as it did. -/
def journalAllUptoRow : OpenClaim := { program := "ytpkdalpjfcopbaadoor", sum := "5b891f11c7b6c959b3433d27a18f4b99afa3a85ff1488e2a325da3c33cbff2f8", func := "quorate/quoratelaw12.JournalAll", spec := "journalAll", unfollowed := true, recurses := true, named := ["quorate/wire.nibble"], apart := false, laid := [("quorate/wire.nibble", laid_quorate_wire_nibble)], narrowed := true }
def JournalAllUptoSaid : Prop := journalAllUptoRow.holds Tryd.pinned (OpenSpec.upto journalAllSpec)

/-- 'quoratelaw12.JournalBetween', WHERE WHAT IT READS IS OF BULK AT MOST 1048576: true; the input reads as it did. -/
def journalBetweenUptoRow : OpenClaim := { program := "ytpkdalpjfcopbaadoor", sum := "5b891f11c7b6c959b3433d27a18f4b99afa3a85ff1488e2a325da3c33cbff2f8", func := "quorate/quoratelaw12.JournalBetween", spec := "journalBetween", unfollowed := true, recurses := true, named := ["quorate/wire.nibble"], apart := false, laid := [("quorate/wire.nibble", laid_quorate_wire_nibble)], narrowed := true }
def JournalBetweenUptoSaid : Prop := journalBetweenUptoRow.holds Tryd.pinned (OpenSpec.upto journalBetweenSpec)

/-- 'quoratelaw12.JournalEveryUnit', WHERE WHAT IT READS IS OF BULK AT MOST 1048576: true; the input reads as it did. -/
def journalEveryUnitUptoRow : OpenClaim := { program := "ytpkdalpjfcopbaadoor", sum := "5b891f11c7b6c959b3433d27a18f4b99afa3a85ff1488e2a325da3c33cbff2f8", func := "quorate/quoratelaw12.JournalEveryUnit", spec := "journalEveryUnit", unfollowed := true, recurses := true, named := ["quorate/wire.nibble"], apart := false, laid := [("quorate/wire.nibble", laid_quorate_wire_nibble)], narrowed := true }
def JournalEveryUnitUptoSaid : Prop := journalEveryUnitUptoRow.holds Tryd.pinned (OpenSpec.upto journalEveryUnitSpec)

/-- 'quoratelaw12.JournalOwn', WHERE WHAT IT READS IS OF BULK AT MOST 1048576: true; the input reads as it did. -/
def journalOwnUptoRow : OpenClaim := { program := "ytpkdalpjfcopbaadoor", sum := "5b891f11c7b6c959b3433d27a18f4b99afa3a85ff1488e2a325da3c33cbff2f8", func := "quorate/quoratelaw12.JournalOwn", spec := "journalOwn", unfollowed := true, recurses := true, named := ["quorate/wire.nibble"], apart := false, laid := [("quorate/wire.nibble", laid_quorate_wire_nibble)], narrowed := true }
def JournalOwnUptoSaid : Prop := journalOwnUptoRow.holds Tryd.pinned (OpenSpec.upto journalOwnSpec)

/-- 'quoratelaw12.JournalDamage', WHERE WHAT IT READS IS OF BULK AT MOST 1048576: true; the input reads as it did. -/
def journalDamageUptoRow : OpenClaim := { program := "ytpkdalpjfcopbaadoor", sum := "5b891f11c7b6c959b3433d27a18f4b99afa3a85ff1488e2a325da3c33cbff2f8", func := "quorate/quoratelaw12.JournalDamage", spec := "journalDamage", unfollowed := true, recurses := true, named := ["quorate/wire.nibble"], apart := false, laid := [("quorate/wire.nibble", laid_quorate_wire_nibble)], narrowed := true }
def JournalDamageUptoSaid : Prop := journalDamageUptoRow.holds Tryd.pinned (OpenSpec.upto journalDamageSpec)

end Rows
end Go.Proofs.YtpkdalpjfcopbaaDoor
