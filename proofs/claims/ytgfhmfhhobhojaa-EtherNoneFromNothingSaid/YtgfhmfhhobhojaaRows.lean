/-
  No cell of these rows narrows 'for every input' (looked for: loops, veiled, ifaces, maps, wideKeys, modest, calm, conditions, laid).
  DERIVED. THE GIVEN ROWS OF THIS SEAT. 12 by the template 'for every input the law returns true; each argument reads behind the call as it read before'; 0 by the template 'total and deterministic' (their statements: YtgfhmfhhobhojaaTotals.lean).
  GIVEN WITH THE SEED: the statements are not yours to turn. If you find one false, say at which input.
  Laid BY PROGRAM, IN A SANDBOX (cutbox-rows.mjs): the forced cells as the released guide's own fill.sh prints them over the translation 75f7edbada798a9c… (all of the seat's roots in one cut). By AI agents, Wed Nov 11 2026. No macro, syntax, notation, axiom, sorry.
-/
import Derived.Test.YtgfhmfhhobhojaaChecked
import GoSem.Claim
import GoSem.ClaimJoined
import GoSem.ClaimMapViews
import Derived.JoinedTies
import Derived.KernelRfl
namespace Go.Proofs.Ytgfhmfhhobhojaa
/- THE CELL 'sum', in the pinned program and in every row, IS THE sha256 OF THE DUMP (.gsa) THAT YtgfhmfhhobhojaaProg.lean LOADS. Nothing in Lean hashes anything: it is a label: what it is worth is what the hold of that sum in a sandbox is worth. -/
noncomputable def Try.pinned : Pinned := { name := "ytgfhmfhhobhojaa", sum := "75f7edbada798a9c6a412f11dd916ad4723d6f58c2ec10978fe13f63b51e503b", checked := Try.checked }
namespace Rows
def none {H : Type} : Left H := { results := [], args := [] }

/-- 'quoratelaw03.EtherOnTime': WHATEVER THE INPUT: true; the input reads as it did. -/
def etherOnTimeSpec : ChangeSpec := { name := "etherOnTime", fn := fun _ => fun
  | [d1, d2, d3] => { results := [.lit (.bool true)], args := [d1, d2, d3] }
  | _ => none }
def etherOnTimeRow : OpenClaim := { program := "ytgfhmfhhobhojaa", sum := "75f7edbada798a9c6a412f11dd916ad4723d6f58c2ec10978fe13f63b51e503b", func := "quorate/quoratelaw03.EtherOnTime", spec := "etherOnTime", plainKeys := false, apart := false }
def EtherOnTimeSaid : Prop := etherOnTimeRow.holds Try.pinned (OpenSpec.ofChange etherOnTimeSpec)

/-- ITS FALSE NEIGHBOUR: 'it returns false'. Refute it at one input. -/
def etherOnTimeWrong : ChangeSpec := { name := "etherOnTime", fn := fun _ => fun
  | [d1, d2, d3] => { results := [.lit (.bool false)], args := [d1, d2, d3] }
  | _ => none }
def EtherOnTimeWrongFalsely : Prop := etherOnTimeRow.holds Try.pinned (OpenSpec.ofChange etherOnTimeWrong)

/-- 'quoratelaw03.EtherRoomy': WHATEVER THE INPUT: true; the input reads as it did. -/
def etherRoomySpec : ChangeSpec := { name := "etherRoomy", fn := fun _ => fun
  | [d1, d2] => { results := [.lit (.bool true)], args := [d1, d2] }
  | _ => none }
def etherRoomyRow : OpenClaim := { program := "ytgfhmfhhobhojaa", sum := "75f7edbada798a9c6a412f11dd916ad4723d6f58c2ec10978fe13f63b51e503b", func := "quorate/quoratelaw03.EtherRoomy", spec := "etherRoomy", plainKeys := false, apart := false }
def EtherRoomySaid : Prop := etherRoomyRow.holds Try.pinned (OpenSpec.ofChange etherRoomySpec)

/-- ITS FALSE NEIGHBOUR: 'it returns false'. Refute it at one input. -/
def etherRoomyWrong : ChangeSpec := { name := "etherRoomy", fn := fun _ => fun
  | [d1, d2] => { results := [.lit (.bool false)], args := [d1, d2] }
  | _ => none }
def EtherRoomyWrongFalsely : Prop := etherRoomyRow.holds Try.pinned (OpenSpec.ofChange etherRoomyWrong)

/-- 'quoratelaw03.EtherNoneFromNothing': WHATEVER THE INPUT: true; the input reads as it did. -/
def etherNoneFromNothingSpec : ChangeSpec := { name := "etherNoneFromNothing", fn := fun _ => fun
  | [d] => { results := [.lit (.bool true)], args := [d] }
  | _ => none }
def etherNoneFromNothingRow : OpenClaim := { program := "ytgfhmfhhobhojaa", sum := "75f7edbada798a9c6a412f11dd916ad4723d6f58c2ec10978fe13f63b51e503b", func := "quorate/quoratelaw03.EtherNoneFromNothing", spec := "etherNoneFromNothing", plainKeys := false, apart := false }
def EtherNoneFromNothingSaid : Prop := etherNoneFromNothingRow.holds Try.pinned (OpenSpec.ofChange etherNoneFromNothingSpec)

/-- ITS FALSE NEIGHBOUR: 'it returns false'. Refute it at one input. -/
def etherNoneFromNothingWrong : ChangeSpec := { name := "etherNoneFromNothing", fn := fun _ => fun
  | [d] => { results := [.lit (.bool false)], args := [d] }
  | _ => none }
def EtherNoneFromNothingWrongFalsely : Prop := etherNoneFromNothingRow.holds Try.pinned (OpenSpec.ofChange etherNoneFromNothingWrong)

/-- 'quoratelaw03.EtherNodes': WHATEVER THE INPUT: true; the input reads as it did. -/
def etherNodesSpec : ChangeSpec := { name := "etherNodes", fn := fun _ => fun
  | [d] => { results := [.lit (.bool true)], args := [d] }
  | _ => none }
def etherNodesRow : OpenClaim := { program := "ytgfhmfhhobhojaa", sum := "75f7edbada798a9c6a412f11dd916ad4723d6f58c2ec10978fe13f63b51e503b", func := "quorate/quoratelaw03.EtherNodes", spec := "etherNodes", plainKeys := false, apart := false }
def EtherNodesSaid : Prop := etherNodesRow.holds Try.pinned (OpenSpec.ofChange etherNodesSpec)

/-- ITS FALSE NEIGHBOUR: 'it returns false'. Refute it at one input. -/
def etherNodesWrong : ChangeSpec := { name := "etherNodes", fn := fun _ => fun
  | [d] => { results := [.lit (.bool false)], args := [d] }
  | _ => none }
def EtherNodesWrongFalsely : Prop := etherNodesRow.holds Try.pinned (OpenSpec.ofChange etherNodesWrong)

/-- 'quoratelaw03.EtherPaths': WHATEVER THE INPUT: true; the input reads as it did. -/
def etherPathsSpec : ChangeSpec := { name := "etherPaths", fn := fun _ => fun
  | [d] => { results := [.lit (.bool true)], args := [d] }
  | _ => none }
def etherPathsRow : OpenClaim := { program := "ytgfhmfhhobhojaa", sum := "75f7edbada798a9c6a412f11dd916ad4723d6f58c2ec10978fe13f63b51e503b", func := "quorate/quoratelaw03.EtherPaths", spec := "etherPaths", plainKeys := false, apart := false }
def EtherPathsSaid : Prop := etherPathsRow.holds Try.pinned (OpenSpec.ofChange etherPathsSpec)

/-- ITS FALSE NEIGHBOUR: 'it returns false'. Refute it at one input. -/
def etherPathsWrong : ChangeSpec := { name := "etherPaths", fn := fun _ => fun
  | [d] => { results := [.lit (.bool false)], args := [d] }
  | _ => none }
def EtherPathsWrongFalsely : Prop := etherPathsRow.holds Try.pinned (OpenSpec.ofChange etherPathsWrong)

/-- 'quoratelaw03.EtherPosts': WHATEVER THE INPUT: true; the input reads as it did. -/
def etherPostsSpec : ChangeSpec := { name := "etherPosts", fn := fun _ => fun
  | [d] => { results := [.lit (.bool true)], args := [d] }
  | _ => none }
def etherPostsRow : OpenClaim := { program := "ytgfhmfhhobhojaa", sum := "75f7edbada798a9c6a412f11dd916ad4723d6f58c2ec10978fe13f63b51e503b", func := "quorate/quoratelaw03.EtherPosts", spec := "etherPosts", plainKeys := false, apart := false }
def EtherPostsSaid : Prop := etherPostsRow.holds Try.pinned (OpenSpec.ofChange etherPostsSpec)

/-- ITS FALSE NEIGHBOUR: 'it returns false'. Refute it at one input. -/
def etherPostsWrong : ChangeSpec := { name := "etherPosts", fn := fun _ => fun
  | [d] => { results := [.lit (.bool false)], args := [d] }
  | _ => none }
def EtherPostsWrongFalsely : Prop := etherPostsRow.holds Try.pinned (OpenSpec.ofChange etherPostsWrong)

/-- 'quoratelaw03.EtherArrives': WHATEVER THE INPUT: true; the input reads as it did. -/
def etherArrivesSpec : ChangeSpec := { name := "etherArrives", fn := fun _ => fun
  | [d] => { results := [.lit (.bool true)], args := [d] }
  | _ => none }
def etherArrivesRow : OpenClaim := { program := "ytgfhmfhhobhojaa", sum := "75f7edbada798a9c6a412f11dd916ad4723d6f58c2ec10978fe13f63b51e503b", func := "quorate/quoratelaw03.EtherArrives", spec := "etherArrives", plainKeys := false, apart := false }
def EtherArrivesSaid : Prop := etherArrivesRow.holds Try.pinned (OpenSpec.ofChange etherArrivesSpec)

/-- ITS FALSE NEIGHBOUR: 'it returns false'. Refute it at one input. -/
def etherArrivesWrong : ChangeSpec := { name := "etherArrives", fn := fun _ => fun
  | [d] => { results := [.lit (.bool false)], args := [d] }
  | _ => none }
def EtherArrivesWrongFalsely : Prop := etherArrivesRow.holds Try.pinned (OpenSpec.ofChange etherArrivesWrong)

/-- 'quoratelaw03.EtherLists': WHATEVER THE INPUT: true; the input reads as it did. -/
def etherListsSpec : ChangeSpec := { name := "etherLists", fn := fun _ => fun
  | [d] => { results := [.lit (.bool true)], args := [d] }
  | _ => none }
def etherListsRow : OpenClaim := { program := "ytgfhmfhhobhojaa", sum := "75f7edbada798a9c6a412f11dd916ad4723d6f58c2ec10978fe13f63b51e503b", func := "quorate/quoratelaw03.EtherLists", spec := "etherLists", plainKeys := false, apart := false }
def EtherListsSaid : Prop := etherListsRow.holds Try.pinned (OpenSpec.ofChange etherListsSpec)

/-- ITS FALSE NEIGHBOUR: 'it returns false'. Refute it at one input. -/
def etherListsWrong : ChangeSpec := { name := "etherLists", fn := fun _ => fun
  | [d] => { results := [.lit (.bool false)], args := [d] }
  | _ => none }
def EtherListsWrongFalsely : Prop := etherListsRow.holds Try.pinned (OpenSpec.ofChange etherListsWrong)

/-- 'quoratelaw03.EtherDoes': WHATEVER THE INPUT: true; the input reads as it did. -/
def etherDoesSpec : ChangeSpec := { name := "etherDoes", fn := fun _ => fun
  | [d] => { results := [.lit (.bool true)], args := [d] }
  | _ => none }
def etherDoesRow : OpenClaim := { program := "ytgfhmfhhobhojaa", sum := "75f7edbada798a9c6a412f11dd916ad4723d6f58c2ec10978fe13f63b51e503b", func := "quorate/quoratelaw03.EtherDoes", spec := "etherDoes", plainKeys := false, apart := false }
def EtherDoesSaid : Prop := etherDoesRow.holds Try.pinned (OpenSpec.ofChange etherDoesSpec)

/-- ITS FALSE NEIGHBOUR: 'it returns false'. Refute it at one input. -/
def etherDoesWrong : ChangeSpec := { name := "etherDoes", fn := fun _ => fun
  | [d] => { results := [.lit (.bool false)], args := [d] }
  | _ => none }
def EtherDoesWrongFalsely : Prop := etherDoesRow.holds Try.pinned (OpenSpec.ofChange etherDoesWrong)

/-- 'quoratelaw03.EtherAll': WHATEVER THE INPUT: true; the input reads as it did. -/
def etherAllSpec : ChangeSpec := { name := "etherAll", fn := fun _ => fun
  | [d] => { results := [.lit (.bool true)], args := [d] }
  | _ => none }
def etherAllRow : OpenClaim := { program := "ytgfhmfhhobhojaa", sum := "75f7edbada798a9c6a412f11dd916ad4723d6f58c2ec10978fe13f63b51e503b", func := "quorate/quoratelaw03.EtherAll", spec := "etherAll", plainKeys := false, apart := false }
def EtherAllSaid : Prop := etherAllRow.holds Try.pinned (OpenSpec.ofChange etherAllSpec)

/-- ITS FALSE NEIGHBOUR: 'it returns false'. Refute it at one input. -/
def etherAllWrong : ChangeSpec := { name := "etherAll", fn := fun _ => fun
  | [d] => { results := [.lit (.bool false)], args := [d] }
  | _ => none }
def EtherAllWrongFalsely : Prop := etherAllRow.holds Try.pinned (OpenSpec.ofChange etherAllWrong)

/-- 'quoratelaw03.EtherTurns': WHATEVER THE INPUT: true; the input reads as it did. -/
def etherTurnsSpec : ChangeSpec := { name := "etherTurns", fn := fun _ => fun
  | [d1, d2] => { results := [.lit (.bool true)], args := [d1, d2] }
  | _ => none }
def etherTurnsRow : OpenClaim := { program := "ytgfhmfhhobhojaa", sum := "75f7edbada798a9c6a412f11dd916ad4723d6f58c2ec10978fe13f63b51e503b", func := "quorate/quoratelaw03.EtherTurns", spec := "etherTurns", plainKeys := false, apart := false }
def EtherTurnsSaid : Prop := etherTurnsRow.holds Try.pinned (OpenSpec.ofChange etherTurnsSpec)

/-- ITS FALSE NEIGHBOUR: 'it returns false'. Refute it at one input. -/
def etherTurnsWrong : ChangeSpec := { name := "etherTurns", fn := fun _ => fun
  | [d1, d2] => { results := [.lit (.bool false)], args := [d1, d2] }
  | _ => none }
def EtherTurnsWrongFalsely : Prop := etherTurnsRow.holds Try.pinned (OpenSpec.ofChange etherTurnsWrong)

/-- 'quoratelaw03.EtherRefusals': WHATEVER THE INPUT: true; the input reads as it did. -/
def etherRefusalsSpec : ChangeSpec := { name := "etherRefusals", fn := fun _ => fun
  | [d] => { results := [.lit (.bool true)], args := [d] }
  | _ => none }
def etherRefusalsRow : OpenClaim := { program := "ytgfhmfhhobhojaa", sum := "75f7edbada798a9c6a412f11dd916ad4723d6f58c2ec10978fe13f63b51e503b", func := "quorate/quoratelaw03.EtherRefusals", spec := "etherRefusals", plainKeys := false, apart := false }
def EtherRefusalsSaid : Prop := etherRefusalsRow.holds Try.pinned (OpenSpec.ofChange etherRefusalsSpec)

/-- ITS FALSE NEIGHBOUR: 'it returns false'. Refute it at one input. -/
def etherRefusalsWrong : ChangeSpec := { name := "etherRefusals", fn := fun _ => fun
  | [d] => { results := [.lit (.bool false)], args := [d] }
  | _ => none }
def EtherRefusalsWrongFalsely : Prop := etherRefusalsRow.holds Try.pinned (OpenSpec.ofChange etherRefusalsWrong)

/- THE SECOND FORM. 'bulk': how many values and letters a reading holds, each counted each time it is reached (what is shared counts as often as it is met; a slice's spare places count too). A statement '..UptoSaid' is the law's where the arguments, and the package variables that the reading takes, are together of bulk at most 1048576: NARROWER than '..Said'. Prove '..Said' where nothing that the law and all that it calls make is longer than what came in: it says more and counts as full. Else prove '..UptoSaid'. A law counts once. -/
mutual
def uptoBulk {H : Type} : DataW H → Nat
  | .lit (.string bytes) => bytes.length + 1
  | .lit _ => 1
  | .nil => 1
  | .ptr d => uptoBulk d + 1
  | .slice elems spare => uptoBulkAll elems + uptoBulkAll spare + 1
  | .agg parts => uptoBulkAll parts + 1
  | .iface _ d => uptoBulk d + 1
  | .map entries => uptoBulkEntries entries + 1
  | .held _ => 1
def uptoBulkAll {H : Type} : List (DataW H) → Nat
  | [] => 0
  | d :: r => uptoBulk d + uptoBulkAll r
def uptoBulkEntries {H : Type} : List (Lit × DataW H) → Nat
  | [] => 0
  | x :: r => uptoBulkEntry x + uptoBulkEntries r
def uptoBulkEntry {H : Type} : Lit × DataW H → Nat
  | (.string bytes, d) => bytes.length + uptoBulk d + 1
  | (_, d) => uptoBulk d + 1
 end
def uptoSmall : (H : Type) → List (DataW H) → Bool := fun _ ds => decide (uptoBulkAll ds ≤ 1048576)
def OpenSpec.upto (s : _root_.Go.ChangeSpec) : _root_.Go.OpenSpec := { _root_.Go.OpenSpec.ofChange s with cond := some uptoSmall }

/-- 'quoratelaw03.EtherOnTime', WHERE WHAT IT READS IS OF BULK AT MOST 1048576: true; the input reads as it did. -/
def etherOnTimeUptoRow : OpenClaim := { program := "ytgfhmfhhobhojaa", sum := "75f7edbada798a9c6a412f11dd916ad4723d6f58c2ec10978fe13f63b51e503b", func := "quorate/quoratelaw03.EtherOnTime", spec := "etherOnTime", plainKeys := false, apart := false, narrowed := true }
def EtherOnTimeUptoSaid : Prop := etherOnTimeUptoRow.holds Try.pinned (OpenSpec.upto etherOnTimeSpec)

/-- 'quoratelaw03.EtherRoomy', WHERE WHAT IT READS IS OF BULK AT MOST 1048576: true; the input reads as it did. -/
def etherRoomyUptoRow : OpenClaim := { program := "ytgfhmfhhobhojaa", sum := "75f7edbada798a9c6a412f11dd916ad4723d6f58c2ec10978fe13f63b51e503b", func := "quorate/quoratelaw03.EtherRoomy", spec := "etherRoomy", plainKeys := false, apart := false, narrowed := true }
def EtherRoomyUptoSaid : Prop := etherRoomyUptoRow.holds Try.pinned (OpenSpec.upto etherRoomySpec)

/-- 'quoratelaw03.EtherNoneFromNothing', WHERE WHAT IT READS IS OF BULK AT MOST 1048576: true; the input reads as it did. -/
def etherNoneFromNothingUptoRow : OpenClaim := { program := "ytgfhmfhhobhojaa", sum := "75f7edbada798a9c6a412f11dd916ad4723d6f58c2ec10978fe13f63b51e503b", func := "quorate/quoratelaw03.EtherNoneFromNothing", spec := "etherNoneFromNothing", plainKeys := false, apart := false, narrowed := true }
def EtherNoneFromNothingUptoSaid : Prop := etherNoneFromNothingUptoRow.holds Try.pinned (OpenSpec.upto etherNoneFromNothingSpec)

/-- 'quoratelaw03.EtherNodes', WHERE WHAT IT READS IS OF BULK AT MOST 1048576: true; the input reads as it did. -/
def etherNodesUptoRow : OpenClaim := { program := "ytgfhmfhhobhojaa", sum := "75f7edbada798a9c6a412f11dd916ad4723d6f58c2ec10978fe13f63b51e503b", func := "quorate/quoratelaw03.EtherNodes", spec := "etherNodes", plainKeys := false, apart := false, narrowed := true }
def EtherNodesUptoSaid : Prop := etherNodesUptoRow.holds Try.pinned (OpenSpec.upto etherNodesSpec)

/-- 'quoratelaw03.EtherPaths', WHERE WHAT IT READS IS OF BULK AT MOST 1048576: true; the input reads as it did. -/
def etherPathsUptoRow : OpenClaim := { program := "ytgfhmfhhobhojaa", sum := "75f7edbada798a9c6a412f11dd916ad4723d6f58c2ec10978fe13f63b51e503b", func := "quorate/quoratelaw03.EtherPaths", spec := "etherPaths", plainKeys := false, apart := false, narrowed := true }
def EtherPathsUptoSaid : Prop := etherPathsUptoRow.holds Try.pinned (OpenSpec.upto etherPathsSpec)

/-- 'quoratelaw03.EtherPosts', WHERE WHAT IT READS IS OF BULK AT MOST 1048576: true; the input reads as it did. -/
def etherPostsUptoRow : OpenClaim := { program := "ytgfhmfhhobhojaa", sum := "75f7edbada798a9c6a412f11dd916ad4723d6f58c2ec10978fe13f63b51e503b", func := "quorate/quoratelaw03.EtherPosts", spec := "etherPosts", plainKeys := false, apart := false, narrowed := true }
def EtherPostsUptoSaid : Prop := etherPostsUptoRow.holds Try.pinned (OpenSpec.upto etherPostsSpec)

/-- 'quoratelaw03.EtherArrives', WHERE WHAT IT READS IS OF BULK AT MOST 1048576: true; the input reads as it did. -/
def etherArrivesUptoRow : OpenClaim := { program := "ytgfhmfhhobhojaa", sum := "75f7edbada798a9c6a412f11dd916ad4723d6f58c2ec10978fe13f63b51e503b", func := "quorate/quoratelaw03.EtherArrives", spec := "etherArrives", plainKeys := false, apart := false, narrowed := true }
def EtherArrivesUptoSaid : Prop := etherArrivesUptoRow.holds Try.pinned (OpenSpec.upto etherArrivesSpec)

/-- 'quoratelaw03.EtherLists', WHERE WHAT IT READS IS OF BULK AT MOST 1048576: true; the input reads as it did. -/
def etherListsUptoRow : OpenClaim := { program := "ytgfhmfhhobhojaa", sum := "75f7edbada798a9c6a412f11dd916ad4723d6f58c2ec10978fe13f63b51e503b", func := "quorate/quoratelaw03.EtherLists", spec := "etherLists", plainKeys := false, apart := false, narrowed := true }
def EtherListsUptoSaid : Prop := etherListsUptoRow.holds Try.pinned (OpenSpec.upto etherListsSpec)

/-- 'quoratelaw03.EtherDoes', WHERE WHAT IT READS IS OF BULK AT MOST 1048576: true; the input reads as it did. -/
def etherDoesUptoRow : OpenClaim := { program := "ytgfhmfhhobhojaa", sum := "75f7edbada798a9c6a412f11dd916ad4723d6f58c2ec10978fe13f63b51e503b", func := "quorate/quoratelaw03.EtherDoes", spec := "etherDoes", plainKeys := false, apart := false, narrowed := true }
def EtherDoesUptoSaid : Prop := etherDoesUptoRow.holds Try.pinned (OpenSpec.upto etherDoesSpec)

/-- 'quoratelaw03.EtherAll', WHERE WHAT IT READS IS OF BULK AT MOST 1048576: true; the input reads as it did. -/
def etherAllUptoRow : OpenClaim := { program := "ytgfhmfhhobhojaa", sum := "75f7edbada798a9c6a412f11dd916ad4723d6f58c2ec10978fe13f63b51e503b", func := "quorate/quoratelaw03.EtherAll", spec := "etherAll", plainKeys := false, apart := false, narrowed := true }
def EtherAllUptoSaid : Prop := etherAllUptoRow.holds Try.pinned (OpenSpec.upto etherAllSpec)

/-- 'quoratelaw03.EtherTurns', WHERE WHAT IT READS IS OF BULK AT MOST 1048576: true; the input reads as it did. -/
def etherTurnsUptoRow : OpenClaim := { program := "ytgfhmfhhobhojaa", sum := "75f7edbada798a9c6a412f11dd916ad4723d6f58c2ec10978fe13f63b51e503b", func := "quorate/quoratelaw03.EtherTurns", spec := "etherTurns", plainKeys := false, apart := false, narrowed := true }
def EtherTurnsUptoSaid : Prop := etherTurnsUptoRow.holds Try.pinned (OpenSpec.upto etherTurnsSpec)

/-- 'quoratelaw03.EtherRefusals', WHERE WHAT IT READS IS OF BULK AT MOST 1048576: true; the input reads as it did. -/
def etherRefusalsUptoRow : OpenClaim := { program := "ytgfhmfhhobhojaa", sum := "75f7edbada798a9c6a412f11dd916ad4723d6f58c2ec10978fe13f63b51e503b", func := "quorate/quoratelaw03.EtherRefusals", spec := "etherRefusals", plainKeys := false, apart := false, narrowed := true }
def EtherRefusalsUptoSaid : Prop := etherRefusalsUptoRow.holds Try.pinned (OpenSpec.upto etherRefusalsSpec)

end Rows
end Go.Proofs.Ytgfhmfhhobhojaa
