/-
  No cell of these rows narrows 'for every input' (looked for: loops, veiled, ifaces, maps, wideKeys, modest, calm, conditions, laid).
  DERIVED. THE GIVEN ROWS OF THIS SEAT. 7 by the template 'for every input the law returns true; each argument reads behind the call as it read before'; 0 by the template 'total and deterministic' (their statements: YtfjpmoigpnmeoaaTotals.lean).
  GIVEN WITH THE SEED: the statements are not yours to turn. If you find one false, say at which input.
  Laid BY PROGRAM, IN A SANDBOX (cutbox-rows.mjs): the forced cells as the released guide's own fill.sh prints them over the translation f924af21e3f063bf… (all of the seat's roots in one cut). By AI agents, Wed Nov 11 2026. No macro, syntax, notation, axiom, sorry.
-/
import Derived.Test.YtfjpmoigpnmeoaaChecked
import GoSem.Claim
import GoSem.ClaimJoined
import GoSem.ClaimMapViews
import Derived.JoinedTies
import Derived.KernelRfl
namespace Go.Proofs.Ytfjpmoigpnmeoaa
/- THE CELL 'sum', in the pinned program and in every row, IS THE sha256 OF THE DUMP (.gsa) THAT YtfjpmoigpnmeoaaProg.lean LOADS. Nothing in Lean hashes anything: it is a label: what it is worth is what the hold of that sum in a sandbox is worth. -/
noncomputable def Try.pinned : Pinned := { name := "ytfjpmoigpnmeoaa", sum := "f924af21e3f063bfb590c66370232f98704dea8268557ac3c5d5308a8a4fb469", checked := Try.checked }
namespace Rows
def none {H : Type} : Left H := { results := [], args := [] }

/-- 'quoratelaw05.DetectSettles': WHATEVER THE INPUT: true; the input reads as it did. -/
def detectSettlesSpec : ChangeSpec := { name := "detectSettles", fn := fun _ => fun
  | [d] => { results := [.lit (.bool true)], args := [d] }
  | _ => none }
def detectSettlesRow : OpenClaim := { program := "ytfjpmoigpnmeoaa", sum := "f924af21e3f063bfb590c66370232f98704dea8268557ac3c5d5308a8a4fb469", func := "quorate/quoratelaw05.DetectSettles", spec := "detectSettles", unfollowed := true, recurses := true, apart := false }
def DetectSettlesSaid : Prop := detectSettlesRow.holds Try.pinned (OpenSpec.ofChange detectSettlesSpec)

/-- ITS FALSE NEIGHBOUR: 'it returns false'. Refute it at one input. -/
def detectSettlesWrong : ChangeSpec := { name := "detectSettles", fn := fun _ => fun
  | [d] => { results := [.lit (.bool false)], args := [d] }
  | _ => none }
def DetectSettlesWrongFalsely : Prop := detectSettlesRow.holds Try.pinned (OpenSpec.ofChange detectSettlesWrong)

/-- 'quoratelaw05.DetectMutual': WHATEVER THE INPUT: true; the input reads as it did. -/
def detectMutualSpec : ChangeSpec := { name := "detectMutual", fn := fun _ => fun
  | [d] => { results := [.lit (.bool true)], args := [d] }
  | _ => none }
def detectMutualRow : OpenClaim := { program := "ytfjpmoigpnmeoaa", sum := "f924af21e3f063bfb590c66370232f98704dea8268557ac3c5d5308a8a4fb469", func := "quorate/quoratelaw05.DetectMutual", spec := "detectMutual", unfollowed := true, recurses := true, apart := false }
def DetectMutualSaid : Prop := detectMutualRow.holds Try.pinned (OpenSpec.ofChange detectMutualSpec)

/-- ITS FALSE NEIGHBOUR: 'it returns false'. Refute it at one input. -/
def detectMutualWrong : ChangeSpec := { name := "detectMutual", fn := fun _ => fun
  | [d] => { results := [.lit (.bool false)], args := [d] }
  | _ => none }
def DetectMutualWrongFalsely : Prop := detectMutualRow.holds Try.pinned (OpenSpec.ofChange detectMutualWrong)

/-- 'quoratelaw05.DetectSilent': WHATEVER THE INPUT: true; the input reads as it did. -/
def detectSilentSpec : ChangeSpec := { name := "detectSilent", fn := fun _ => fun
  | [d] => { results := [.lit (.bool true)], args := [d] }
  | _ => none }
def detectSilentRow : OpenClaim := { program := "ytfjpmoigpnmeoaa", sum := "f924af21e3f063bfb590c66370232f98704dea8268557ac3c5d5308a8a4fb469", func := "quorate/quoratelaw05.DetectSilent", spec := "detectSilent", unfollowed := true, recurses := true, apart := false }
def DetectSilentSaid : Prop := detectSilentRow.holds Try.pinned (OpenSpec.ofChange detectSilentSpec)

/-- ITS FALSE NEIGHBOUR: 'it returns false'. Refute it at one input. -/
def detectSilentWrong : ChangeSpec := { name := "detectSilent", fn := fun _ => fun
  | [d] => { results := [.lit (.bool false)], args := [d] }
  | _ => none }
def DetectSilentWrongFalsely : Prop := detectSilentRow.holds Try.pinned (OpenSpec.ofChange detectSilentWrong)

/-- 'quoratelaw05.DetectReplay': WHATEVER THE INPUT: true; the input reads as it did. -/
def detectReplaySpec : ChangeSpec := { name := "detectReplay", fn := fun _ => fun
  | [d] => { results := [.lit (.bool true)], args := [d] }
  | _ => none }
def detectReplayRow : OpenClaim := { program := "ytfjpmoigpnmeoaa", sum := "f924af21e3f063bfb590c66370232f98704dea8268557ac3c5d5308a8a4fb469", func := "quorate/quoratelaw05.DetectReplay", spec := "detectReplay", unfollowed := true, recurses := true, apart := false }
def DetectReplaySaid : Prop := detectReplayRow.holds Try.pinned (OpenSpec.ofChange detectReplaySpec)

/-- ITS FALSE NEIGHBOUR: 'it returns false'. Refute it at one input. -/
def detectReplayWrong : ChangeSpec := { name := "detectReplay", fn := fun _ => fun
  | [d] => { results := [.lit (.bool false)], args := [d] }
  | _ => none }
def DetectReplayWrongFalsely : Prop := detectReplayRow.holds Try.pinned (OpenSpec.ofChange detectReplayWrong)

/-- 'quoratelaw05.DetectExact': WHATEVER THE INPUT: true; the input reads as it did. -/
def detectExactSpec : ChangeSpec := { name := "detectExact", fn := fun _ => fun
  | [d] => { results := [.lit (.bool true)], args := [d] }
  | _ => none }
def detectExactRow : OpenClaim := { program := "ytfjpmoigpnmeoaa", sum := "f924af21e3f063bfb590c66370232f98704dea8268557ac3c5d5308a8a4fb469", func := "quorate/quoratelaw05.DetectExact", spec := "detectExact", unfollowed := true, recurses := true, apart := false }
def DetectExactSaid : Prop := detectExactRow.holds Try.pinned (OpenSpec.ofChange detectExactSpec)

/-- ITS FALSE NEIGHBOUR: 'it returns false'. Refute it at one input. -/
def detectExactWrong : ChangeSpec := { name := "detectExact", fn := fun _ => fun
  | [d] => { results := [.lit (.bool false)], args := [d] }
  | _ => none }
def DetectExactWrongFalsely : Prop := detectExactRow.holds Try.pinned (OpenSpec.ofChange detectExactWrong)

/-- 'quoratelaw05.DetectOwn': WHATEVER THE INPUT: true; the input reads as it did. -/
def detectOwnSpec : ChangeSpec := { name := "detectOwn", fn := fun _ => fun
  | [d] => { results := [.lit (.bool true)], args := [d] }
  | _ => none }
def detectOwnRow : OpenClaim := { program := "ytfjpmoigpnmeoaa", sum := "f924af21e3f063bfb590c66370232f98704dea8268557ac3c5d5308a8a4fb469", func := "quorate/quoratelaw05.DetectOwn", spec := "detectOwn", unfollowed := true, recurses := true, apart := false }
def DetectOwnSaid : Prop := detectOwnRow.holds Try.pinned (OpenSpec.ofChange detectOwnSpec)

/-- ITS FALSE NEIGHBOUR: 'it returns false'. Refute it at one input. -/
def detectOwnWrong : ChangeSpec := { name := "detectOwn", fn := fun _ => fun
  | [d] => { results := [.lit (.bool false)], args := [d] }
  | _ => none }
def DetectOwnWrongFalsely : Prop := detectOwnRow.holds Try.pinned (OpenSpec.ofChange detectOwnWrong)

/-- 'quoratelaw05.DetectTurns': WHATEVER THE INPUT: true; the input reads as it did. -/
def detectTurnsSpec : ChangeSpec := { name := "detectTurns", fn := fun _ => fun
  | [d1, d2] => { results := [.lit (.bool true)], args := [d1, d2] }
  | _ => none }
def detectTurnsRow : OpenClaim := { program := "ytfjpmoigpnmeoaa", sum := "f924af21e3f063bfb590c66370232f98704dea8268557ac3c5d5308a8a4fb469", func := "quorate/quoratelaw05.DetectTurns", spec := "detectTurns", unfollowed := true, recurses := true, apart := false }
def DetectTurnsSaid : Prop := detectTurnsRow.holds Try.pinned (OpenSpec.ofChange detectTurnsSpec)

/-- ITS FALSE NEIGHBOUR: 'it returns false'. Refute it at one input. -/
def detectTurnsWrong : ChangeSpec := { name := "detectTurns", fn := fun _ => fun
  | [d1, d2] => { results := [.lit (.bool false)], args := [d1, d2] }
  | _ => none }
def DetectTurnsWrongFalsely : Prop := detectTurnsRow.holds Try.pinned (OpenSpec.ofChange detectTurnsWrong)

/- THE SECOND FORM. 'bulk': how many values and letters a reading holds, each counted each time it is reached (what is shared counts as often as it is met; a slice's spare places count too). A statement '..UptoSaid' is the law's where the arguments, and the package variables that the reading takes, are together of bulk at most 1048576: NARROWER than '..Said'. Prove '..Said' where nothing that the law and all that it calls make is longer than what came in: it says more and counts as full. Else prove '..UptoSaid'. A law counts once. -/
mutual
def uptoBulk {H : Type} : DataW H → Nat
  | .lit (.string bytes) => bytes.length + 1
  | .lit _ => 1
  | .nil => 1
  | .ptr d => uptoBulk d + 1
  | .slice elems spare => uptoBulkAll elems + uptoBulkAll spare + 1
  | .agg parts => uptoBulkAll parts + 1
  | .iface _ d => uptoBulk d + 1
  | .map entries => uptoBulkEntries entries + 1
  | .held _ => 1
def uptoBulkAll {H : Type} : List (DataW H) → Nat
  | [] => 0
  | d :: r => uptoBulk d + uptoBulkAll r
def uptoBulkEntries {H : Type} : List (Lit × DataW H) → Nat
  | [] => 0
  | x :: r => uptoBulkEntry x + uptoBulkEntries r
def uptoBulkEntry {H : Type} : Lit × DataW H → Nat
  | (.string bytes, d) => bytes.length + uptoBulk d + 1
  | (_, d) => uptoBulk d + 1
 end
def uptoSmall : (H : Type) → List (DataW H) → Bool := fun _ ds => decide (uptoBulkAll ds ≤ 1048576)
def OpenSpec.upto (s : _root_.Go.ChangeSpec) : _root_.Go.OpenSpec := { _root_.Go.OpenSpec.ofChange s with cond := some uptoSmall }

/-- 'quoratelaw05.DetectSettles', WHERE WHAT IT READS IS OF BULK AT MOST 1048576: true; the input reads as it did. -/
def detectSettlesUptoRow : OpenClaim := { program := "ytfjpmoigpnmeoaa", sum := "f924af21e3f063bfb590c66370232f98704dea8268557ac3c5d5308a8a4fb469", func := "quorate/quoratelaw05.DetectSettles", spec := "detectSettles", unfollowed := true, recurses := true, apart := false, narrowed := true }
def DetectSettlesUptoSaid : Prop := detectSettlesUptoRow.holds Try.pinned (OpenSpec.upto detectSettlesSpec)

/-- 'quoratelaw05.DetectMutual', WHERE WHAT IT READS IS OF BULK AT MOST 1048576: true; the input reads as it did. -/
def detectMutualUptoRow : OpenClaim := { program := "ytfjpmoigpnmeoaa", sum := "f924af21e3f063bfb590c66370232f98704dea8268557ac3c5d5308a8a4fb469", func := "quorate/quoratelaw05.DetectMutual", spec := "detectMutual", unfollowed := true, recurses := true, apart := false, narrowed := true }
def DetectMutualUptoSaid : Prop := detectMutualUptoRow.holds Try.pinned (OpenSpec.upto detectMutualSpec)

/-- 'quoratelaw05.DetectSilent', WHERE WHAT IT READS IS OF BULK AT MOST 1048576: true; the input reads as it did. -/
def detectSilentUptoRow : OpenClaim := { program := "ytfjpmoigpnmeoaa", sum := "f924af21e3f063bfb590c66370232f98704dea8268557ac3c5d5308a8a4fb469", func := "quorate/quoratelaw05.DetectSilent", spec := "detectSilent", unfollowed := true, recurses := true, apart := false, narrowed := true }
def DetectSilentUptoSaid : Prop := detectSilentUptoRow.holds Try.pinned (OpenSpec.upto detectSilentSpec)

/-- 'quoratelaw05.DetectReplay', WHERE WHAT IT READS IS OF BULK AT MOST 1048576: true; the input reads as it did. -/
def detectReplayUptoRow : OpenClaim := { program := "ytfjpmoigpnmeoaa", sum := "f924af21e3f063bfb590c66370232f98704dea8268557ac3c5d5308a8a4fb469", func := "quorate/quoratelaw05.DetectReplay", spec := "detectReplay", unfollowed := true, recurses := true, apart := false, narrowed := true }
def DetectReplayUptoSaid : Prop := detectReplayUptoRow.holds Try.pinned (OpenSpec.upto detectReplaySpec)

/-- 'quoratelaw05.DetectExact', WHERE WHAT IT READS IS OF BULK AT MOST 1048576: true; the input reads as it did. -/
def detectExactUptoRow : OpenClaim := { program := "ytfjpmoigpnmeoaa", sum := "f924af21e3f063bfb590c66370232f98704dea8268557ac3c5d5308a8a4fb469", func := "quorate/quoratelaw05.DetectExact", spec := "detectExact", unfollowed := true, recurses := true, apart := false, narrowed := true }
def DetectExactUptoSaid : Prop := detectExactUptoRow.holds Try.pinned (OpenSpec.upto detectExactSpec)

/-- 'quoratelaw05.DetectOwn', WHERE WHAT IT READS IS OF BULK AT MOST 1048576: true; the input reads as it did. -/
def detectOwnUptoRow : OpenClaim := { program := "ytfjpmoigpnmeoaa", sum := "f924af21e3f063bfb590c66370232f98704dea8268557ac3c5d5308a8a4fb469", func := "quorate/quoratelaw05.DetectOwn", spec := "detectOwn", unfollowed := true, recurses := true, apart := false, narrowed := true }
def DetectOwnUptoSaid : Prop := detectOwnUptoRow.holds Try.pinned (OpenSpec.upto detectOwnSpec)

/-- 'quoratelaw05.DetectTurns', WHERE WHAT IT READS IS OF BULK AT MOST 1048576: true; the input reads as it did. -/
def detectTurnsUptoRow : OpenClaim := { program := "ytfjpmoigpnmeoaa", sum := "f924af21e3f063bfb590c66370232f98704dea8268557ac3c5d5308a8a4fb469", func := "quorate/quoratelaw05.DetectTurns", spec := "detectTurns", unfollowed := true, recurses := true, apart := false, narrowed := true }
def DetectTurnsUptoSaid : Prop := detectTurnsUptoRow.holds Try.pinned (OpenSpec.upto detectTurnsSpec)

end Rows
end Go.Proofs.Ytfjpmoigpnmeoaa
